/- strings.Repeat of this program, laid (printed by the shelf's plain mode). -/
import Derived.Shelf.Strings.Repeat
import Derived.Test.YtigjingielnaoaaGreatDoorProg
import Derived.Test.YtigjingielnaoaaGreatDoorQAA
import Derived.Test.YtigjingielnaoaaGreatDoorQAG
import Derived.Test.YtigjingielnaoaaGreatDoorQAE
import Derived.Test.YtigjingielnaoaaGreatDoorQAH
set_option linter.unusedVariables false
set_option linter.unusedSimpArgs false
set_option linter.unusedSectionVars false
namespace Go.Proofs
open Go.Shelf
def YtigjingielnaoaaGreatDoor.repL_ren:Go.Shelf.Ren:=⟨fun | 105=>182 | 212=>217 | 99=>218 | 165=>74 | 166=>75 | 170=>219 | 169=>76 | 263=>231 | 264=>232 | 206=>190 | 240=>112 | 241=>113 | 276=>153 | 277=>154 | n=>n,fun | 9=>9 | 3=>3 | 4=>4 | 20=>20 | 0=>0 | 46=>38 | 109=>240 | 5=>5 | 72=>109 | 76=>113 | 51=>22 | 146=>246 | 53=>85 | 148=>265 | 70=>107 | 37=>87 | 75=>112 | 127=>152 | 164=>187 | 80=>115 | n=>n,fun | n=>n⟩
theorem YtigjingielnaoaaGreatDoor.repL:Go.Proofs.Lays.n105 Tryz.prog YtigjingielnaoaaGreatDoor.repL_ren := {
 mixed:=by kernel_rfl
 f99:=Tryz.func218.trans (congrArg some (by kernel_rfl))
 f105:=Tryz.func182.trans (congrArg some (by kernel_rfl))
 f165:=Tryz.func74.trans (congrArg some (by kernel_rfl))
 f166:=Tryz.func75.trans (congrArg some (by kernel_rfl))
 f169:=Tryz.func76.trans (congrArg some (by kernel_rfl))
 f170:=Tryz.func219.trans (congrArg some (by kernel_rfl))
 f206:=Tryz.func190.trans (congrArg some (by kernel_rfl))
 f212:=Tryz.func217.trans (congrArg some (by kernel_rfl))
 f240:=Tryz.func112.trans (congrArg some (by kernel_rfl))
 f241:=Tryz.func113.trans (congrArg some (by kernel_rfl))
 f263:=Tryz.func231.trans (congrArg some (by kernel_rfl))
 f264:=Tryz.func232.trans (congrArg some (by kernel_rfl))
 f276:=Tryz.func153.trans (congrArg some (by kernel_rfl))
 f277:=Tryz.func154.trans (congrArg some (by kernel_rfl))
 t0:=Tryz.underlying0
 a0:=Tryz.isAgg0
 z0:=Tryz.sizeOf0
 v0:=Tryz.zeroValue0
 t3:=Tryz.underlying3
 a3:=Tryz.isAgg3
 z3:=Tryz.sizeOf3
 v3:=Tryz.zeroValue3
 t4:=Tryz.underlying4
 a4:=Tryz.isAgg4
 z4:=Tryz.sizeOf4
 v4:=Tryz.zeroValue4
 t5:=Tryz.underlying5
 a5:=Tryz.isAgg5
 z5:=Tryz.sizeOf5
 v5:=Tryz.zeroValue5
 t9:=Tryz.underlying9
 a9:=Tryz.isAgg9
 z9:=Tryz.sizeOf9
 v9:=Tryz.zeroValue9
 t20:=Tryz.underlying20
 a20:=Tryz.isAgg20
 z20:=Tryz.sizeOf20
 v20:=Tryz.zeroValue20
 t37:=Tryz.underlying87
 a37:=Tryz.isAgg87
 z37:=Tryz.sizeOf87
 v37:=Tryz.zeroValue87
 t46:=Tryz.underlying38
 a46:=Tryz.isAgg38
 z46:=Tryz.sizeOf38
 v46:=Tryz.zeroValue38
 t51:=Tryz.underlying22
 a51:=Tryz.isAgg22
 z51:=Tryz.sizeOf22
 v51:=Tryz.zeroValue22
 t53:=Tryz.underlying85
 a53:=Tryz.isAgg85
 z53:=Tryz.sizeOf85
 v53:=Tryz.zeroValue85
 t70:=Tryz.underlying107
 a70:=Tryz.isAgg107
 z70:=Tryz.sizeOf107
 v70:=Tryz.zeroValue107
 t72:=Tryz.underlying109
 a72:=Tryz.isAgg109
 z72:=Tryz.sizeOf109
 v72:=Tryz.zeroValue109
 t75:=Tryz.underlying112
 a75:=Tryz.isAgg112
 z75:=Tryz.sizeOf112
 v75:=Tryz.zeroValue112
 t76:=Tryz.underlying113
 a76:=Tryz.isAgg113
 z76:=Tryz.sizeOf113
 v76:=Tryz.zeroValue113
 t109:=Tryz.underlying240
 a109:=Tryz.isAgg240
 z109:=Tryz.sizeOf240
 v109:=Tryz.zeroValue240
 t127:=Tryz.underlying152
 a127:=Tryz.isAgg152
 z127:=Tryz.sizeOf152
 v127:=Tryz.zeroValue152
 t146:=Tryz.underlying246
 a146:=Tryz.isAgg246
 z146:=Tryz.sizeOf246
 v146:=Tryz.zeroValue246
 t148:=Tryz.underlying265
 a148:=Tryz.isAgg265
 z148:=Tryz.sizeOf265
 v148:=Tryz.zeroValue265
 t164:=Tryz.underlying187
 a164:=Tryz.isAgg187
 z164:=Tryz.sizeOf187
 v164:=Tryz.zeroValue187 }
theorem YtigjingielnaoaaGreatDoor.repX:Builder.Extra Tryz.prog YtigjingielnaoaaGreatDoor.repL_ren := {
 sizeBuilder:=by kernel_rfl
 liesBuilder:=by kernel_rfl
 t5:=Tryz.underlying5
 a5:=Tryz.isAgg5
 z5:=Tryz.sizeOf5
 v5:=Tryz.zeroValue5
 infoByte:=by kernel_rfl
 cellsByte:=by kernel_rfl
 sizeByte:=by kernel_rfl
 neB5:=by decide }
end Go.Proofs
namespace Go.Proofs.YtigjingielnaoaaGreatDoor
open Go.RowKit
theorem zcd (c:Nat) (w:World) (hc:c≤1000000000) :
 Calls Tryz.prog 182 #[.string { data := #[0] },.int .i64 (c:Nat)] w fun e w'=>e = .returned (.string (zf (List.replicate c 0)))∧Upd [] w w':=by
 refine (Any.strings_Repeat YtigjingielnaoaaGreatDoor.repL YtigjingielnaoaaGreatDoor.repX { data := #[0] } c w (by omega) (by show 1*c≤_; omega)).mono ?_
 rintro e w' ⟨rfl,h⟩
 refine ⟨?_,.of_below h⟩
 have h1:=Lib.repeatL_replicate 0 1 c
 rw [show List.replicate 1 (0:UInt8)=(({ data := #[0] }:ByteArray)).data.toList from rfl] at h1
 rw [h1]
 simp [zf]
end Go.Proofs.YtigjingielnaoaaGreatDoor
namespace Go.Proofs.YtigjingielnaoaaGreatDoor
open Go.RowKit
set_option maxRecDepth 100000 in
set_option maxHeartbeats 1600000 in
theorem zcu (s b:Nat) (w:World) (hs:s<4294967296) (hb:b<2):Calls Tryz.prog 184 #[.int .u32 (s:Nat),.int .u32 (b:Nat)] w fun e w'=>e = .returned (.int .u32 (qq s b:Nat))∧w=w':=by
 have hx:=JU (s/2) 3988292384 (by omega) (by omega)
 have e1:((s/2:Nat):Int)=(s:Int)/2:=by omega
 rw [e1] at hx
 have HX:=Lib.hid hx
 clear hx e1
 by_cases h:(s+b)%2=1
 · have HB:=Lib.hid (show qq s b=(s/2) ^^^ 3988292384 from by unfold qq; rw [if_pos h])
   have t1:(((s:Int)+(b:Int))%4294967296%2==1)=true:=by simp; omega
   clear h
   go_enter Tryz.func184,Tryz.ntmps184
   go_wp2
   go_returns
   exact ⟨by rw [HB.out]; exact congrArg (fun z=>Ending.returned (.int .u32 z)) HX.out,rfl⟩
 · have HB:=Lib.hid (show qq s b=s/2 from by unfold qq; rw [if_neg h])
   have t1:(((s:Int)+(b:Int))%4294967296%2==1)=false:=by simp; omega
   clear h
   go_enter Tryz.func184,Tryz.ntmps184
   go_wp2
   go_returns
   exact ⟨by rw [HB.out]; exact congrArg (fun z=>Ending.returned (.int .u32 z)) (show (s:Int)/2=((s/2:Nat):Int) by omega),rfl⟩
theorem zaZ {s b:Nat} (h:s<4294967296):qq s b<4294967296:=by
 unfold qq
 split
 · exact Nat.xor_lt_two_pow (n:=32) (by omega) (by omega)
 · omega
set_option maxRecDepth 100000 in
set_option maxHeartbeats 1600000 in
theorem zau (s b:Nat) (w:World) (hs:s<4294967296) (hb:b<256):Calls Tryz.prog 137 #[.int .u32 (s:Nat),.int .u8 (b:Nat)] w fun e w'=>e = .returned (.int .u32 (xP s b:Nat))∧w=w':=by
 have H0:=Lib.hid (show xP s b=zbH 8 s b from (zad 8 s b hb).symm)
 generalize xP s b=R at *
 go_enter Tryz.func137,Tryz.ntmps137
 go_wp2
 go_loopg [0,5,6] 8 (fun g s0 s5 s6 wr => ∃ i x n,i≤8∧g=8-i∧s6 = .int .i64 (i:Nat)∧s0 = .int .u32 (x:Nat)∧s5 = .int .u32 (n:Nat)∧x<4294967296∧n<256∧Hid (R=zbH (8-i) x n)∧w=wr)
 case atStart=>exact ⟨0,s,b,by omega,rfl,rfl,rfl,rfl,hs,hb,H0,rfl⟩
 case round =>
  obtain ⟨i,x,n,hi,rfl,rfl,rfl,rfl,hx,hn,H,rfl⟩:=hrel
  by_cases hc:i<8
  · have hcz:(i:Int)<8:=by omega
    have H1:=Lib.hid (show R=zbH (8-(i+1)) (qq x (n%2)) (n/2) from by rw [H.out,show 8-i=(8-(i+1))+1 by omega]; rfl)
    obtain ⟨q,hq⟩ : ∃ q,q=n%2:=⟨_,rfl⟩
    obtain ⟨m,hm⟩ : ∃ m,m=n/2:=⟨_,rfl⟩
    rw [← hq,← hm] at H1
    have z1:(n:Int)%2=(q:Int):=by omega
    have z2:(n:Int)/2=(m:Int):=by omega
    have hq2:q<2:=by omega
    have hm2:m<256:=by omega
    have HB:=Lib.hid (zcu x q w hx hq2)
    have hy:=Lib.hid (zaZ (b:=q) hx)
    clear hq hm H
    generalize qq x q=y at *
    go_wp2_with fail
    refine HB.out.mono ?_
    rintro e w1 ⟨rfl,rfl⟩
    go_wp2
    go_roundg (8-(i+1))
    · exact ⟨i+1,y,m,by omega,rfl,by first | rfl | go_num,rfl,rfl,hy.out,hm2,H1,rfl⟩
    · omega
  · have hcz : ¬ (i:Int)<8:=by omega
    have h8:i=8:=by omega
    subst h8
    go_wp2
    go_returns
    exact ⟨by rw [H.out]; rfl,rfl⟩
set_option maxRecDepth 100000 in
set_option maxHeartbeats 1600000 in
theorem zbb (s:Nat) (T:ByteArray) (w:World) (hs:s<4294967296) (hT:T.size≤9223372036854775807):Calls Tryz.prog 90 #[.int .u32 (s:Nat),.string T] w fun e w'=>e = .returned (.int .u32 (yW s (ze T):Nat))∧w=w':=by
 have hlen:=zg T
 go_enter Tryz.func90,Tryz.ntmps90
 go_wp2
 go_loopg [0,5] T.size (fun g s0 s5 wr => ∃ i x,i≤T.size∧g=T.size-i∧s5 = .int .i64 (i:Nat)∧s0 = .int .u32 (x:Nat)∧x<4294967296∧Hid (x=yW s ((ze T).take i))∧w=wr)
 case atStart=>exact ⟨0,s,by omega,rfl,rfl,rfl,hs,Lib.hid rfl,rfl⟩
 case round =>
  obtain ⟨i,x,hi,rfl,rfl,rfl,hx,H,rfl⟩:=hrel
  by_cases hc:i<T.size
  · have hcz:(i:Int)<(T.size:Int):=by omega
    have hil:i<(ze T).length:=by omega
    have hb:(ze T)[i]=T[i].toNat:=yE T i hc hil
    have hst:yW s ((ze T).take (i+1))=xP x T[i].toNat:=by
     rw [List.take_succ_eq_append_getElem hil,vG,← H.out,hb]
    have hbl:T[i].toNat<256:=T[i].toNat_lt
    have HS:=Lib.hid hst
    have HB:=Lib.hid (zau x T[i].toNat w hx hbl)
    have hy:=Lib.hid (vo hx hbl)
    clear hst hb H
    go_wp2_with fail
    refine HB.out.mono ?_
    rintro e w1 ⟨rfl,rfl⟩
    go_wp2
    go_roundg (T.size-(i+1))
    · exact ⟨i+1,_,by omega,rfl,by first | rfl | go_num,rfl,hy.out,Lib.hid HS.out.symm,rfl⟩
    · omega
  · have hcz : ¬ (i:Int)<(T.size:Int):=by omega
    have h8:i=T.size:=by omega
    go_wp2
    go_returns
    exact ⟨by rw [H.out,h8,← hlen,List.take_length]; rfl,rfl⟩
theorem WZ (T:ByteArray) (w:World) (hT:T.size≤9223372036854775807):Calls Tryz.prog 49 #[.string T] w fun e w'=>e = .returned (.int .u32 (yy T:Nat))∧w=w':=by
 have HF:=Lib.hid (zbb 4294967295 T w (by omega) hT)
 have HO:=Lib.hid (show yy T=4294967295-yW 4294967295 (ze T) from rfl)
 have hl:=vw (ze T) (s:=4294967295) (by omega) (yk T)
 generalize yW 4294967295 (ze T)=x at *
 go_enter Tryz.func49,Tryz.ntmps49
 go_wp2_with fail
 refine HF.out.mono ?_
 rintro e w1 ⟨rfl,rfl⟩
 go_wp2
 go_returns
 exact ⟨by rw [HO.out]; exact congrArg (fun z=>Ending.returned (.int .u32 z)) (by omega),rfl⟩
end Go.Proofs.YtigjingielnaoaaGreatDoor
namespace Go.Proofs.YtigjingielnaoaaGreatDoor
open Go.RowKit
def jo (l:List Nat):List Value:=l.map fun x:Nat => .int .u32 (x:Int)
theorem YO (l:List Nat) : ∀ v∈jo l,v.oneCell'=true:=by intro v hv; obtain ⟨x,_,rfl⟩:=List.mem_map.1 hv; rfl
theorem Js (l:List Nat):(jo l).length=l.length:=by simp [jo]
theorem zcs (l:List Nat) (i x:Nat):(jo l).set i (.int .u32 (x:Nat))=jo (l.set i x):=by simp [jo]
theorem zbZ {l:List Nat} {i x:Nat} (h:l[i]? =some x):(jo l)[i]? =some (.int .u32 (x:Int)):=by simp [jo,h]
def JM:List Nat:=(List.range 256).map (jm 8)
theorem YD:Tryz.zeroCells215=(jo (List.replicate 256 0)).toArray:=by kernel_rfl
theorem JS:(Tryz.prog.info? 215).map (·.size)=some 256:=by kernel_rfl
theorem Zx:JM.length=256:=by simp [JM]
theorem Vj {i:Nat} (h:i<256):JM[i]? =some (jm 8 i):=by simp [JM,h]
set_option maxRecDepth 100000 in
set_option maxHeartbeats 3200000 in
theorem zbV (w:World):Calls Tryz.prog 178 #[] w fun e w'=>e = .returned (.agg (jo JM).toArray)∧Upd [] w w':=by
 go_enter Tryz.func178,Tryz.ntmps178
 go_wp2
 have hB0:=Blk.new w (jo (List.replicate 256 0)) 215
 have hU0:Upd [] w (w.alloc (.cells (jo (List.replicate 256 0)).toArray 215)):=(Upd.refl [] w).alloc _
 rw [YD]
 generalize w.alloc (.cells (jo (List.replicate 256 0)).toArray 215)=w0 at *
 have HW:=Lib.hid (Nat.le_refl w.heap.size)
 obtain ⟨b0,hb0⟩ : ∃ b0,w.heap.size=b0:=⟨_,rfl⟩
 rw [hb0] at hB0 ⊢
 have HB:=Lib.hid (show w.heap.size≤b0 by omega)
 clear hb0 HW
 go_loopg [3] 256 (fun g s3 wr => ∃ i L,i≤256∧g=256-i∧s3 = .int .i64 (i:Nat)∧Blk wr b0 (jo L) 215∧L.length=256∧Hid (∀ j,j<i→L[j]? =some (jm 8 j))∧Upd [] w wr)
 case atStart=>exact ⟨0,List.replicate 256 0,by omega,rfl,rfl,hB0,by simp,Lib.hid (fun j h=>by omega),hU0⟩
 case round =>
  obtain ⟨i,L,hi,rfl,rfl,hB,hL,HJ,hU⟩:=hrel
  clear hB0 hU0
  by_cases hc:i<256
  · have hcz:(i:Int)<256:=by omega
    have e0:IntKind.u32.wrap (i:Int)=(i:Int):=jQ i (by omega)
    go_wp2
    go_loopg [2,8] 8 (fun g s2 s8 wx => ∃ k x,k≤8∧g=8-k∧s8 = .int .i64 (k:Nat)∧s2 = .int .u32 (x:Nat)∧x<4294967296∧Hid (jm 8 i=jm (8-k) x)∧wr=wx)
    case atStart=>exact ⟨0,i,by omega,rfl,rfl,by first | rfl | (congr 1; omega),by omega,Lib.hid rfl,rfl⟩
    case round =>
     obtain ⟨k,x,hk,rfl,rfl,rfl,hx,HX,rfl⟩:=hrel
     by_cases hc2:k<8
     · have hkz:(k:Int)<8:=by omega
       obtain ⟨p,hp⟩ : ∃ p,p=x%2:=⟨_,rfl⟩
       have ha:bits .and .u32 (x:Int) 1=(p:Int):=by
        have h:=zac x 1 hx (by omega)
        rw [Nat.and_one_is_mod,← hp] at h
        exact h
       have hst:jm (8-k) x=jm (8-(k+1)) (yJ x):=by rw [show 8-k=(8-(k+1))+1 by omega]; rfl
       have HST:=Lib.hid hst
       have hlt:=Lib.hid (Qd hx)
       have hxx:=JU (x/2) 3988292384 (by omega) (by omega)
       rw [show ((x/2:Nat):Int)=(x:Int)/2 by omega] at hxx
       clear hst
       by_cases hp1:p=1
       · have t1:((p:Int)==1)=true:=by simp; omega
         have t1':(p==1)=true:=by simp [hp1]
         have HC:=Lib.hid (show yJ x=(x/2) ^^^ 3988292384 from by unfold yJ; rw [if_pos (by omega)])
         have HXX:=Lib.hid hxx
         clear hp hxx hp1
         go_wp2
         go_roundg (8-(k+1))
         · exact ⟨k+1,yJ x,by omega,rfl,by first | rfl | go_num,by rw [HC.out,← HXX.out]; rfl,hlt.out,Lib.hid (by rw [HX.out,HST.out]),rfl⟩
         · omega
       · have t1:((p:Int)==1)=false:=by simp; omega
         have t1':(p==1)=false:=by simp [hp1]
         have HC:=Lib.hid (show yJ x=x/2 from by unfold yJ; rw [if_neg (by omega)])
         clear hp hxx hp1
         go_wp2
         go_roundg (8-(k+1))
         · exact ⟨k+1,yJ x,by omega,rfl,by first | rfl | go_num,by rw [HC.out]; first | rfl | (congr 1; done) | (congr 1; omega),hlt.out,Lib.hid (by rw [HX.out,HST.out]),rfl⟩
         · omega
     · have hkz : ¬ (k:Int)<8:=by omega
       have hk8:k=8:=by omega
       subst hk8
       have HX2:=Lib.hid (show jm 8 i=x from HX.out)
       have c1:=hB.cell i (v := .int .u32 ((L[i]'(by omega):Nat):Int)) (by rw [jo]; simp [hL,hc])
       have f1:=hB.frz i
       have hi0:(0:Int)≤(i:Int):=by omega
       generalize L[i]'(by omega)=old at *
       go_wp2
       go_roundg (256-(i+1))
       · refine ⟨i+1,L.set i x,by omega,rfl,by first | rfl | go_num,by rw [← zcs]; exact hB.set i _,by simpa using hL,Lib.hid ?_,hU.setCell (.inr (by exact HB.out)) _⟩
         intro j hj
         by_cases hji:j=i
         · subst hji; rw [List.getElem?_set_self (by omega),HX2.out]
         · rw [List.getElem?_set_ne (by omega)]; exact HJ.out j (by omega)
       · omega
  · have hcz : ¬ (i:Int)<256:=by omega
    have h8:i=256:=by omega
    subst h8
    have hLT:L=JM:=List.ext_getElem? (fun j=>by
     by_cases hj:j<256
     · rw [HJ.out j hj,Vj hj]
     · rw [List.getElem?_eq_none (by omega),List.getElem?_eq_none (by rw [Zx]; omega)])
    subst hLT
    have HLL:=Lib.hid (Js JM)
    have HTL:=Lib.hid Zx
    clear HJ hL
    generalize hTL:JM=L at *
    have HTT:=Lib.hid hTL
    clear hTL
    go_wp2_with (first
     | (refine zG rfl 215 _ rfl b0 rfl 215 (jo L) hB _ Tryz.underlying215 rfl (by rw [HLL.out,HTL.out]; exact JS) ?_)
     | (refine zO rfl 215 _ _ rfl b0 rfl (jo L) rfl 215 _ hB (by rw [HLL.out,HTL.out]; exact JS) rfl (YO _) ?_; intro w2 hB2 hU2))
    refine bodyPost_ret (results_cell_row rfl _ _ b0 215 _ (0,0) _ (by simp) hB2 Tryz.underlying215 rfl (by rw [JS]; simp [HLL.out,HTL.out])) (by simp) ⟨by rw [HTT.out],?_⟩
    exact hU.trans hU2 (fun k hk => .inr (by have:=HB.out; simp at hk; omega))
end Go.Proofs.YtigjingielnaoaaGreatDoor
namespace Go.Proofs.YtigjingielnaoaaGreatDoor
open Go.RowKit
set_option maxRecDepth 100000 in
set_option maxHeartbeats 1600000 in
theorem zdl (b0 s b:Nat) (w:World) (hB:Blk w b0 (jo JM) 215) (hs:s<4294967296) (hb:b<256) :
 Calls Tryz.prog 216 #[.pointer (some ⟨b0,0,none⟩),.int .u32 (s:Nat),.int .u8 (b:Nat)] w fun e w'=>e = .returned (.int .u32 (xP s b:Nat))∧w=w':=by
 have hct:=zbn s b
 obtain ⟨r,hr⟩ : ∃ r,r=s%256:=⟨_,rfl⟩
 have z1:(s:Int)%256=(r:Int):=by omega
 have hr2:r<256:=by omega
 have hx:=zeI r b hr2 hb
 have hq:r ^^^ b<256:=Nat.xor_lt_two_pow (n:=8) hr2 hb
 rw [← hr] at hct
 generalize r ^^^ b=q at *
 have c1:=hB.cell q (zbZ (Vj hq))
 have hy:jm 8 q<4294967296:=Yp 8 (by omega)
 have hxx:=JU (jm 8 q) (s/256) hy (by omega)
 rw [hct] at hxx
 have q0:(0:Int)≤(q:Int):=by omega
 have q1:(q:Int)<256:=by omega
 have e2:((s/256:Nat):Int)=(s:Int)/256:=by omega
 rw [e2] at hxx
 have HR:=Lib.hid hxx
 clear hct hxx e2 hr hB
 generalize jm 8 q=y at *
 generalize xP s b=z at *
 go_enter Tryz.func216,Tryz.ntmps216
 go_wp2
 go_returns
 exact ⟨by exact congrArg (fun z=>Ending.returned (.int .u32 z)) HR.out,rfl⟩
set_option maxRecDepth 100000 in
set_option maxHeartbeats 1600000 in
theorem zcb (b0 sb s:Nat) (T:ByteArray) (w:World) (hB:Blk w b0 (jo JM) 215) (hs:s<4294967296) (hT:T.size≤9223372036854775807) (hc0:w.cell? ⟨sb,0,none⟩=some (.string T)) :
 Calls Tryz.prog 180 #[.pointer (some ⟨b0,0,none⟩),.int .u32 (s:Nat),.slice (some ⟨sb,0,none⟩) 1 1] w fun e w'=>e = .returned (.int .u32 (yW s (ze T):Nat))∧w=w':=by
 have hlen:=zg T
 go_enter Tryz.func180,Tryz.ntmps180
 go_wp2
 go_loopg [1,12] 1 (fun g s1 s12 wr => ∃ i x,i≤1∧g=1-i∧s12 = .int .i64 (i:Nat)∧s1 = .int .u32 (x:Nat)∧Hid ((i=0→x=s)∧(i=1→x=yW s (ze T)))∧w=wr)
 case atStart=>exact ⟨0,s,by omega,rfl,rfl,rfl,Lib.hid ⟨fun _=>rfl,fun h=>by omega⟩,rfl⟩
 case round =>
  obtain ⟨i,x,hi,rfl,rfl,rfl,H,rfl⟩:=hrel
  rcases (by omega:i=0∨i=1) with rfl | rfl
  · have hx0:=H.out.1 rfl
    subst hx0
    clear H
    go_wp2
    go_loopg [1,18] T.size (fun g s1 s18 wr => ∃ i y,i≤T.size∧g=T.size-i∧s18 = .int .i64 (i:Nat)∧s1 = .int .u32 (y:Nat)∧y<4294967296∧Hid (y=yW x ((ze T).take i))∧w=wr)
    case atStart=>exact ⟨0,x,by omega,rfl,rfl,rfl,hs,Lib.hid rfl,rfl⟩
    case round =>
     obtain ⟨i,y,hi,rfl,rfl,rfl,hy,H,rfl⟩:=hrel
     by_cases hc:i<T.size
     · have hcz:(i:Int)<(T.size:Int):=by omega
       have hil:i<(ze T).length:=by omega
       have hb:(ze T)[i]=T[i].toNat:=yE T i hc hil
       have hst:yW x ((ze T).take (i+1))=xP y T[i].toNat:=by
        rw [List.take_succ_eq_append_getElem hil,vG,← H.out,hb]
       have hbl:T[i].toNat<256:=T[i].toNat_lt
       have HS:=Lib.hid hst
       have HB:=Lib.hid (zdl b0 y T[i].toNat w hB hy hbl)
       have hy2:=Lib.hid (vo hy hbl)
       clear hst hb H
       go_wp2_with fail
       refine HB.out.mono ?_
       rintro e w1 ⟨rfl,rfl⟩
       go_wp2
       go_roundg (T.size-(i+1))
       · exact ⟨i+1,_,by omega,rfl,by first | rfl | go_num,rfl,hy2.out,Lib.hid HS.out.symm,rfl⟩
       · omega
     · have hcz : ¬ (i:Int)<(T.size:Int):=by omega
       have h8:i=T.size:=by omega
       have HE:=Lib.hid (show y=yW x (ze T) from by rw [H.out,h8,← hlen,List.take_length])
       go_wp2
       go_roundg 0
       · exact ⟨1,y,by omega,rfl,by first | rfl | go_num,rfl,Lib.hid ⟨fun h=>by omega,fun _=>HE.out⟩,rfl⟩
       · omega
  · have H1:=Lib.hid (H.out.2 rfl)
    go_wp2
    go_returns
    exact ⟨by rw [← H1.out]; rfl,rfl⟩
theorem zbJ (w:World):Calls Tryz.prog 181 #[] w fun e w'=>e = .returned (.int .u32 (4294967295:Nat))∧w=w':=by
 go_enter Tryz.func181,Tryz.ntmps181
 go_wp2
 go_returns
 exact ⟨rfl,rfl⟩
theorem zdK (n:Nat) (h:n<4294967296):4294967295 ^^^ n=4294967295-n:=by
 have e1:4294967295-n=2^32-(n+1):=by omega
 have e2:4294967295=2^32-1:=by omega
 rw [e1]
 apply Nat.eq_of_testBit_eq
 intro i
 rw [Nat.testBit_xor,Nat.testBit_two_pow_sub_succ h,e2,Nat.testBit_two_pow_sub_one]
 by_cases hi:i<32
 · simp [hi]
 · have:n.testBit i=false:=Nat.testBit_lt_two_pow (Nat.lt_of_lt_of_le h (show 2^32≤2^i from Nat.pow_le_pow_right (by omega) (by omega)))
   simp [hi,this]
theorem zdM (x:Nat) (w:World) (hx:x<4294967296):Calls Tryz.prog 179 #[.int .u32 (x:Nat)] w fun e w'=>e = .returned (.int .u32 (4294967295-x:Nat))∧w=w':=by
 go_enter Tryz.func179,Tryz.ntmps179
 go_wp2
 go_returns
 refine ⟨?_,rfl⟩
 have hx2:=JU 4294967295 x (by omega) hx
 rw [zdK x hx] at hx2
 exact congrArg (fun z=>Ending.returned (.int .u32 z)) hx2
set_option maxRecDepth 100000 in
set_option maxHeartbeats 1600000 in
theorem vZ (T:ByteArray) (w:World) (hT:T.size≤9223372036854775807):Calls Tryz.prog 134 #[.string T] w fun e w'=>e = .returned (.int .u32 (yy T:Nat))∧Upd [] w w':=by
 have HO:=Lib.hid (show yy T=4294967295-yW 4294967295 (ze T) from rfl)
 have hl:=vw (ze T) (s:=4294967295) (by omega) (yk T)
 have HF:=Lib.hid (fun b0 sb w' hB hc=>zcb b0 sb 4294967295 T w' hB (by omega) hT hc)
 generalize yW 4294967295 (ze T)=x at *
 have HLL:=Lib.hid (Js JM)
 have HTL:=Lib.hid Zx
 go_enter Tryz.func134,Tryz.ntmps134
 go_wp2_with fail
 refine (zbV w).mono ?_
 rintro e w1 ⟨rfl,hU1⟩
 go_wp2_with (first | (refine zO rfl 215 _ _ rfl w1.heap.size rfl (jo JM) rfl 215 (jo (List.replicate 256 0)) (by rw [YD]; exact Blk.new w1 _ _) (by rw [JS]; rfl) (by rw [HLL.out,HTL.out]; rfl) (YO _) ?_; intro w2 hB2 hU2))
 have hU02:Upd [] w w2:=(hU1.then (((Upd.refl [] w1).alloc (.cells (jo (List.replicate 256 0)).toArray 215)))).trans (by rw [YD] at hU2; exact hU2) (fun k hk => .inr (by have:=hU1.size; simp at hk; omega))
 refine (zbJ w2).mono ?_
 rintro e w3 ⟨rfl,rfl⟩
 go_wp2_with fail
 have hS:=Blk.new w2 [.string T] 9
 have hB4:=hB2.alloc (.cells #[.string T] 9)
 refine (HF.out w1.heap.size w2.heap.size _ hB4 (hS.cell 0 rfl)).mono ?_
 rintro e w4 ⟨rfl,rfl⟩
 go_wp2_with fail
 refine (zdM x _ hl).mono ?_
 rintro e w5 ⟨rfl,rfl⟩
 go_wp2
 go_returns
 exact ⟨by rw [HO.out]; rfl,hU02.alloc _⟩
end Go.Proofs.YtigjingielnaoaaGreatDoor
namespace Go.Proofs.YtigjingielnaoaaGreatDoor
open Go.RowKit
theorem Ju (B b:Nat) (l:List Nat) (w:World) (h:Wr B b l w) (h0:l≠[]) (hb : ∀ x∈l,x<256) :
 Calls Tryz.prog 135 #[.pointer (some ⟨b,0,none⟩)] w fun e w'=>e = .returned (.string (zf l))∧Wr B b l w'∧Below B w w':=by
 have HS:=Lib.hid (vL B b l w h h0 hb)
 clear h
 go_enter Tryz.func135,Tryz.ntmps135
 go_wp2_with fail
 refine HS.out.mono ?_
 rintro e w1 ⟨rfl,h1,h2,h3⟩
 go_wp2
 go_ret
 exact ⟨rfl,h1,h2⟩
theorem zce (s:ByteArray) (w:World) (h:s.size≤100000):Calls Tryz.prog 136 #[.string s] w fun e w'=>e = .returned (.string (s++zf (List.replicate (512*((s.size+511)/512)-s.size) 0)))∧Upd [] w w':=by
 have HS:=Lib.hid (fun z=>XW s.size z (by omega))
 obtain ⟨q,hq⟩ : ∃ q,(s.size+511)/512=q:=⟨_,rfl⟩
 obtain ⟨c,hc⟩ : ∃ c,512*q-s.size=c:=⟨_,rfl⟩
 have e1:IntKind.i64.wrap (512*(q:Int))=512*(q:Int):=IntWalk.i64_in _ (by omega)
 have e2:IntKind.i64.wrap (512*(q:Int)-(s.size:Int))=(c:Int):=by rw [IntWalk.i64_in _ (by omega)]; omega
 have HR:=Lib.hid (fun z=>zcd c z (by omega))
 rw [hq] at HS ⊢
 rw [hc]
 have hz:(zf (List.replicate c 0)).size=c:=by rw [zh,List.length_replicate]
 generalize zf (List.replicate c 0)=Z at *
 have ha : ∀ w,(Op.stringOp .add s Z).run Tryz.prog w = .ok (.string (s++Z)) w:=fun w=>run_string_add_sum _ _ _ (by omega)
 clear hq hc hz
 go_enter Tryz.func136,Tryz.ntmps136
 go_wp2_with fail
 refine (HS.out _).mono ?_
 rintro e w1 ⟨rfl,rfl⟩
 go_wp2_with fail
 refine (HR.out _).mono ?_
 rintro e w2 ⟨rfl,hu⟩
 go_wp2
 go_ret
 exact ⟨rfl,hu⟩
set_option maxRecDepth 100000 in
set_option maxHeartbeats 3200000 in
theorem VW (a b:Int) (w:World) :
 Calls Tryz.prog 89 #[.agg #[.int .i64 a,.int .i64 b]] w fun e w'=>e = .returned (.string (zf (mkW a b)))∧Upd [] w w':=by
 have HR:=Lib.hid (fun z=>Vd a b z)
 have HV:Hid (mkW a b=if yu a b=true then mkF a b++List.replicate 484 0 else []):=Lib.hid rfl
 have HBD:=Lib.hid (fun h=>jd (a:=a) (b:=b) h)
 have HB:=Lib.hid (Blk.new w [.int .i64 a,.int .i64 b] 80)
 have HU:=Lib.hid ((Upd.refl [] w).alloc (.cells #[.int .i64 a,.int .i64 b] 80))
 generalize yu a b=R at *
 generalize mkW a b=W at *
 go_enter Tryz.func89,Tryz.ntmps89
 go_upto_region 1 with fail
 change Code.wp _ _ _ _ (w.alloc (.cells #[.int .i64 a,.int .i64 b] 80))
 generalize w.alloc (.cells #[.int .i64 a,.int .i64 b] 80)=w1 at *
 generalize w.heap.size=q at *
 have cA:=HB.out.all
 go_wp2_with fail
 refine (HR.out _).mono ?_
 rintro e w2 ⟨rfl,hu2⟩
 have HB2:=Lib.hid (HB.out.upd hu2 (by simp))
 have HU2:=Lib.hid (HU.out.then hu2)
 clear cA hu2 HB HU HR
 cases R with
 | false =>
   go_wp2
   go_returns
   exact ⟨by rw [HV.out]; rfl,HU2.out⟩
 | true =>
 obtain ⟨a0,a1,b0,b1⟩:=HBD.out rfl
 clear HBD
 obtain ⟨n,rfl⟩ : ∃ n:Nat,a=n:=⟨a.toNat,by omega⟩
 obtain ⟨m,rfl⟩ : ∃ n:Nat,b=n:=⟨b.toNat,by omega⟩
 have HW1:Hid (IntKind.u64.wrap (n:Int)=(n:Nat)):=Lib.hid (by rw [IntKind.wrap_u64]; omega)
 have HW2:Hid (IntKind.u64.wrap (m:Int)=(m:Nat)):=Lib.hid (by rw [IntKind.wrap_u64]; omega)
 have HQ:=Lib.hid HB2.out.lt
 have HWA:=Lib.hid (Bld.fresh 175 w2)
 go_upto_region 4 with fail
 refine wp_region_held_drew (S:=fun w'=>Blk w' q [.int .i64 (n:Nat),.int .i64 (m:Nat)] 80∧Below w2.heap.size w2 w') (by kernel_rfl) ⟨HB2.out.alloc _,((Below.refl _ _).alloc (Nat.le_refl _) _).drew⟩ (fun hHeld=>hdN ?_)
 refine hdT 2 (some 9) ?_; refine hdT 3 (some 10) ?_ (hy:=by intro w0 hSw; have q0:=hSw.1.cell 0 rfl; go_simp; try with_reducible rfl)
 refine hdT 4 (some 11) ?_ (hy:=by intro w0 hSw; go_simp; all_goals rw [HW1.out]) (v := .int .u64 (n:Nat)); refine hdT 6 (some 13) ?_
 refine hdT 7 (some 14) ?_ (hy:=by intro w0 hSw; have q0:=hSw.1.cell 1 rfl; go_simp; try with_reducible rfl)
 refine hdT 8 (some 15) ?_ (hy:=by intro w0 hSw; go_simp; all_goals rw [HW2.out]) (v := .int .u64 (m:Nat))
 refine hdO 0 (fun K hK=>?_)
 go_simp
 go_wp2
 refine hK.out _ _ ⟨hHeld.1.alloc _,hHeld.2.alloc (by first | exact hHeld.2.size | exact Nat.le_refl _) _⟩ (fun hHeld=>hdN ?_)
 clear hK K
 refine hdO 1 (fun K hK=>?_)
 go_simp
 have hgc:(((w2.alloc (.cells #[.pointer none,.slice none 0 0] 175)).alloc (.cells #[.string ({ data := #[83,87,73,78,71,76,69,49] }:ByteArray)] 9)).drew).cell? ⟨w2.heap.size+1,0,none⟩=some (.string ({ data := #[83,87,73,78,71,76,69,49] }:ByteArray)):=(by have h:=(Blk.new (w2.alloc (.cells #[.pointer none,.slice none 0 0] 175)) [.string ({ data := #[83,87,73,78,71,76,69,49] }:ByteArray)] 9).cell 0 rfl; rw [World.size_alloc] at h; exact h)
 refine (zbr _ _ _ [] ({ data := #[83,87,73,78,71,76,69,49] }:ByteArray) _ (HWA.out.upd ((Upd.refl [] _).alloc _).drew) hgc (by show 0+8≤_; omega) hHeld.2.size).mono ?_
 rintro e zb ⟨rfl,hWb,hLb⟩
 have HWb:=Lib.hid hWb
 clear hWb
 generalize hG:[]++ze ({ data := #[83,87,73,78,71,76,69,49] }:ByteArray)=G at *
 have HG:=Lib.hid hG
 have hgl:G.length=8:=by rw [← hG]; rfl
 clear hG hgc
 go_wp2
 refine hK.out _ _ ⟨hHeld.1.below hLb HQ.out,hHeld.2.trans hLb⟩ (fun hHeld=>hdN ?_)
 clear hK K
 refine hdO 5 (fun K hK=>?_)
 go_simp
 refine (Zt _ _ n 8 _ _ HWb.out (by omega) (by omega) (by omega) hHeld.2.size).mono ?_
 rintro e zc ⟨rfl,hWc,hLc⟩
 have HWc:=Lib.hid hWc
 clear hWc
 go_wp2
 refine hK.out _ _ ⟨hHeld.1.below hLc HQ.out,hHeld.2.trans hLc⟩ (fun hHeld=>hdN ?_)
 clear hK K
 refine hdO 9 (fun K hK=>?_)
 go_simp
 refine (Zt _ _ m 8 _ _ HWc.out (by omega) (by omega) (by rw [List.length_append,xa]; omega) hHeld.2.size).mono ?_
 rintro e zd ⟨rfl,hWd,hLd⟩
 have HWd:=Lib.hid hWd
 clear hWd
 go_wp2
 refine hK.out _ _ ⟨hHeld.1.below hLd HQ.out,hHeld.2.trans hLd⟩ (fun hHeld=>hdN ?_)
 clear hK K
 refine wpAnyH_done (by kernel_rfl) ?_ 0
 have HWd:=HWd
 have HBl:=Lib.hid hHeld.2
 have HHL:Hid ((G++leP n 8)++leP m 8=mkH (n:Int) (m:Int)):=Lib.hid (by rw [← HG.out]; simp [mkH]; rfl)
 rw [HHL.out] at HWd
 have HH0:Hid (mkH (n:Int) (m:Int)≠[]):=Lib.hid (fun e=>by have:=kR (n:Int) (m:Int); rw [e] at this; cases this)
 have HC:=Lib.hid (fun z=>vZ (zf (mkH (n:Int) (m:Int))) z (by rw [zh,kR]; omega))
 have hcl:yy (zf (mkH (n:Int) (m:Int)))<4294967296:=by unfold yy; omega
 have HP:=Lib.hid (fun z=>zce (zf (mkF (n:Int) (m:Int))) z (by rw [zh,JT]; omega))
 have HFL:=Lib.hid (JT (n:Int) (m:Int))
 have HHB:=Lib.hid (zde (n:Int) (m:Int))
 have HFB:=Lib.hid (zcQ (n:Int) (m:Int))
 have HFF:Hid (mkH (n:Int) (m:Int)++leP (yy (zf (mkH (n:Int) (m:Int)))) 4=mkF (n:Int) (m:Int)):=Lib.hid rfl
 have HHN:=Lib.hid (kR (n:Int) (m:Int))
 generalize yy (zf (mkH (n:Int) (m:Int)))=cs at *
 generalize mkF (n:Int) (m:Int)=F at *
 generalize mkH (n:Int) (m:Int)=H at *
 have HW3:Hid (IntKind.u64.wrap (cs:Int)=(cs:Nat)):=Lib.hid (by rw [IntKind.wrap_u64]; omega)
 have HF0:Hid (F≠[]):=Lib.hid (fun e=>by have:=HFL.out; rw [e] at this; cases this)
 rw [zh,HFL.out,xh] at HP
 clear a0 a1 b0 b1 HHL HW1 HW2 hHeld HWA HWb HWc hLb hLc hLd HB2
 go_wp2_with fail
 refine (Ju _ _ _ _ HWd.out HH0.out HHB.out).mono ?_
 rintro e x1 ⟨rfl,hW1,hL1⟩
 have HW1:=Lib.hid hW1
 have HL1:=Lib.hid (HBl.out.trans hL1)
 clear hW1 hL1
 go_wp2_with fail
 refine (HC.out _).mono ?_
 rintro e x2 ⟨rfl,hu2⟩
 have HW2:=Lib.hid (Bld.upd HW1.out hu2)
 have HL2:=Lib.hid (HL1.out.trans (hu2.belowB HL1.out.size))
 have hw3:=HW3.out
 clear hu2 HC
 go_wp2_with fail
 refine (Zt _ _ cs 4 _ _ HW2.out (by omega) (by omega) (by have:=HHN.out; omega) HL2.out.size).mono ?_
 rintro e x3 ⟨rfl,hW3,hL3⟩
 rw [HFF.out] at hW3
 have HW3:=Lib.hid hW3
 have HL3:=Lib.hid (HL2.out.trans hL3)
 clear hW3 hL3 hw3
 go_wp2_with fail
 refine (Ju _ _ _ _ HW3.out HF0.out HFB.out).mono ?_
 rintro e x4 ⟨rfl,hW4,hL4⟩
 have HL4:=Lib.hid (HL3.out.trans hL4)
 clear hW4 hL4
 go_wp2_with fail
 refine (HP.out _).mono ?_
 rintro e x5 ⟨rfl,hu5⟩
 have HU5:=Lib.hid (HU2.out.then (Upd.of_below (HL4.out.trans (hu5.belowB HL4.out.size))))
 clear hu5
 go_wp2
 go_ret
 exact ⟨by rw [HV.out]; rfl,HU5.out⟩
end Go.Proofs.YtigjingielnaoaaGreatDoor
