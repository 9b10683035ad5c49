/- Package swingleref02: walks. -/
import Derived.Test.YtfkcdnaghndgfaaGreatDoorQAN
set_option linter.unusedVariables false
set_option linter.unusedSimpArgs false
set_option linter.unusedSectionVars false
namespace Go.Proofs.YtfkcdnaghndgfaaGreatDoor
open Go.RowKit
set_option maxRecDepth 100000 in
set_option maxHeartbeats 1600000 in
theorem zhj (s b:Nat) (w:World) (hs:s<4294967296) (hb:b<2):Calls Tryz.prog 147 #[.int .u32 (s:Nat),.int .u32 (b:Nat)] w fun e w'=>e = .returned (.int .u32 (qx s b:Nat))∧w=w':=by
 have hx:=ZK (s/2) 3988292384 (by omega) (by omega)
 have e1:((s/2:Nat):Int)=(s:Int)/2:=by omega
 rw [e1] at hx
 have HX:=Lib.hid hx
 clear hx e1
 by_cases h:(s+b)%2=1
 · have HB:=Lib.hid (show qx s b=(s/2) ^^^ 3988292384 from by unfold qx; rw [if_pos h])
   have t1:(((s:Int)+(b:Int))%4294967296%2==1)=true:=by simp; omega
   clear h
   go_enter Tryz.func147,Tryz.ntmps147
   go_wp2
   go_returns
   exact ⟨by rw [HB.out]; exact congrArg (fun z=>Ending.returned (.int .u32 z)) HX.out,rfl⟩
 · have HB:=Lib.hid (show qx s b=s/2 from by unfold qx; rw [if_neg h])
   have t1:(((s:Int)+(b:Int))%4294967296%2==1)=false:=by simp; omega
   clear h
   go_enter Tryz.func147,Tryz.ntmps147
   go_wp2
   go_returns
   exact ⟨by rw [HB.out]; exact congrArg (fun z=>Ending.returned (.int .u32 z)) (show (s:Int)/2=((s/2:Nat):Int) by omega),rfl⟩
theorem zeA {s b:Nat} (h:s<4294967296):qx s b<4294967296:=by
 unfold qx
 split
 · exact Nat.xor_lt_two_pow (n:=32) (by omega) (by omega)
 · omega
set_option maxRecDepth 100000 in
set_option maxHeartbeats 1600000 in
theorem zd3 (s b:Nat) (w:World) (hs:s<4294967296) (hb:b<256):Calls Tryz.prog 114 #[.int .u32 (s:Nat),.int .u8 (b:Nat)] w fun e w'=>e = .returned (.int .u32 (xW s b:Nat))∧w=w':=by
 have H0:=Lib.hid (show xW s b=zeu 8 s b from (zdl 8 s b hb).symm)
 generalize xW s b=R at *
 go_enter Tryz.func114,Tryz.ntmps114
 go_wp2
 go_loopg [0,5,6] 8 (fun g s0 s5 s6 wr => ∃ i x n,i≤8∧g=8-i∧s6 = .int .i64 (i:Nat)∧s0 = .int .u32 (x:Nat)∧s5 = .int .u32 (n:Nat)∧x<4294967296∧n<256∧Hid (R=zeu (8-i) x n)∧w=wr)
 case atStart=>exact ⟨0,s,b,by omega,rfl,rfl,rfl,rfl,hs,hb,H0,rfl⟩
 case round =>
  obtain ⟨i,x,n,hi,rfl,rfl,rfl,rfl,hx,hn,H,rfl⟩:=hrel
  by_cases hc:i<8
  · have hcz:(i:Int)<8:=by omega
    have H1:=Lib.hid (show R=zeu (8-(i+1)) (qx x (n%2)) (n/2) from by rw [H.out,show 8-i=(8-(i+1))+1 by omega]; rfl)
    obtain ⟨q,hq⟩ : ∃ q,q=n%2:=⟨_,rfl⟩
    obtain ⟨m,hm⟩ : ∃ m,m=n/2:=⟨_,rfl⟩
    rw [← hq,← hm] at H1
    have z1:(n:Int)%2=(q:Int):=by omega
    have z2:(n:Int)/2=(m:Int):=by omega
    have hq2:q<2:=by omega
    have hm2:m<256:=by omega
    have HB:=Lib.hid (zhj x q w hx hq2)
    have hy:=Lib.hid (zeA (b:=q) hx)
    clear hq hm H
    generalize qx x q=y at *
    go_wp2_with fail
    refine HB.out.mono ?_
    rintro e w1 ⟨rfl,rfl⟩
    go_wp2
    go_roundg (8-(i+1))
    · exact ⟨i+1,y,m,by omega,rfl,by first | rfl | go_num,rfl,rfl,hy.out,hm2,H1,rfl⟩
    · omega
  · have hcz : ¬ (i:Int)<8:=by omega
    have h8:i=8:=by omega
    subst h8
    go_wp2
    go_returns
    exact ⟨by rw [H.out]; rfl,rfl⟩
set_option maxRecDepth 100000 in
set_option maxHeartbeats 1600000 in
theorem zdQ (s:Nat) (T:ByteArray) (w:World) (hs:s<4294967296) (hT:T.size≤9223372036854775807):Calls Tryz.prog 71 #[.int .u32 (s:Nat),.string T] w fun e w'=>e = .returned (.int .u32 (yN s (za T):Nat))∧w=w':=by
 have hlen:=zc T
 go_enter Tryz.func71,Tryz.ntmps71
 go_wp2
 go_loopg [0,5] T.size (fun g s0 s5 wr => ∃ i x,i≤T.size∧g=T.size-i∧s5 = .int .i64 (i:Nat)∧s0 = .int .u32 (x:Nat)∧x<4294967296∧Hid (x=yN s ((za T).take i))∧w=wr)
 case atStart=>exact ⟨0,s,by omega,rfl,rfl,rfl,hs,Lib.hid rfl,rfl⟩
 case round =>
  obtain ⟨i,x,hi,rfl,rfl,rfl,hx,H,rfl⟩:=hrel
  by_cases hc:i<T.size
  · have hcz:(i:Int)<(T.size:Int):=by omega
    have hil:i<(za T).length:=by omega
    have hb:(za T)[i]=T[i].toNat:=zM T i hc hil
    have hst:yN s ((za T).take (i+1))=xW x T[i].toNat:=by
     rw [List.take_succ_eq_append_getElem hil,Qi,← H.out,hb]
    have hbl:T[i].toNat<256:=T[i].toNat_lt
    have HS:=Lib.hid hst
    have HB:=Lib.hid (zd3 x T[i].toNat w hx hbl)
    have hy:=Lib.hid (JL hx hbl)
    clear hst hb H
    go_wp2_with fail
    refine HB.out.mono ?_
    rintro e w1 ⟨rfl,rfl⟩
    go_wp2
    go_roundg (T.size-(i+1))
    · exact ⟨i+1,_,by omega,rfl,by first | rfl | go_num,rfl,hy.out,Lib.hid HS.out.symm,rfl⟩
    · omega
  · have hcz : ¬ (i:Int)<(T.size:Int):=by omega
    have h8:i=T.size:=by omega
    go_wp2
    go_returns
    exact ⟨by rw [H.out,h8,← hlen,List.take_length]; rfl,rfl⟩
theorem ziB (T:ByteArray) (w:World) (hT:T.size≤9223372036854775807):Calls Tryz.prog 34 #[.string T] w fun e w'=>e = .returned (.int .u32 (xa T:Nat))∧w=w':=by
 have HF:=Lib.hid (zdQ 4294967295 T w (by omega) hT)
 have HO:=Lib.hid (show xa T=4294967295-yN 4294967295 (za T) from rfl)
 have hl:=Jy (za T) (s:=4294967295) (by omega) (zP T)
 generalize yN 4294967295 (za T)=x at *
 go_enter Tryz.func34,Tryz.ntmps34
 go_wp2_with fail
 refine HF.out.mono ?_
 rintro e w1 ⟨rfl,rfl⟩
 go_wp2
 go_returns
 exact ⟨by rw [HO.out]; exact congrArg (fun z=>Ending.returned (.int .u32 z)) (by omega),rfl⟩
end Go.Proofs.YtfkcdnaghndgfaaGreatDoor
namespace Go.Proofs.YtfkcdnaghndgfaaGreatDoor
open Go.RowKit
def jP (l:List Nat):List Value:=l.map fun x:Nat => .int .u32 (x:Int)
theorem WV (l:List Nat) : ∀ v∈jP l,v.oneCell'=true:=by intro v hv; obtain ⟨x,_,rfl⟩:=List.mem_map.1 hv; rfl
theorem Zf (l:List Nat):(jP l).length=l.length:=by simp [jP]
theorem zfO (l:List Nat) (i x:Nat):(jP l).set i (.int .u32 (x:Nat))=jP (l.set i x):=by simp [jP]
theorem zgR {l:List Nat} {i x:Nat} (h:l[i]? =some x):(jP l)[i]? =some (.int .u32 (x:Int)):=by simp [jP,h]
def ZE:List Nat:=(List.range 256).map (jQ 8)
theorem Ky:Tryz.zeroCells64=(jP (List.replicate 256 0)).toArray:=by kernel_rfl
theorem ZO:(Tryz.prog.info? 64).map (·.size)=some 256:=by kernel_rfl
theorem Xt:ZE.length=256:=by simp [ZE]
theorem zaY {i:Nat} (h:i<256):ZE[i]? =some (jQ 8 i):=by simp [ZE,h]
set_option maxRecDepth 100000 in
set_option maxHeartbeats 3200000 in
theorem zeC (w:World):Calls Tryz.prog 37 #[] w fun e w'=>e = .returned (.agg (jP ZE).toArray)∧Upd [] w w':=by
 go_enter Tryz.func37,Tryz.ntmps37
 go_wp2
 have hB0:=Blk.new w (jP (List.replicate 256 0)) 64
 have hU0:Upd [] w (w.alloc (.cells (jP (List.replicate 256 0)).toArray 64)):=(Upd.refl [] w).alloc _
 rw [Ky]
 generalize w.alloc (.cells (jP (List.replicate 256 0)).toArray 64)=w0 at *
 have HW:=Lib.hid (Nat.le_refl w.heap.size)
 obtain ⟨b0,hb0⟩ : ∃ b0,w.heap.size=b0:=⟨_,rfl⟩
 rw [hb0] at hB0 ⊢
 have HB:=Lib.hid (show w.heap.size≤b0 by omega)
 clear hb0 HW
 go_loopg [3] 256 (fun g s3 wr => ∃ i L,i≤256∧g=256-i∧s3 = .int .i64 (i:Nat)∧Blk wr b0 (jP L) 64∧L.length=256∧Hid (∀ j,j<i→L[j]? =some (jQ 8 j))∧Upd [] w wr)
 case atStart=>exact ⟨0,List.replicate 256 0,by omega,rfl,rfl,hB0,by simp,Lib.hid (fun j h=>by omega),hU0⟩
 case round =>
  obtain ⟨i,L,hi,rfl,rfl,hB,hL,HJ,hU⟩:=hrel
  clear hB0 hU0
  by_cases hc:i<256
  · have hcz:(i:Int)<256:=by omega
    have e0:IntKind.u32.wrap (i:Int)=(i:Int):=kL i (by omega)
    go_wp2
    go_loopg [2,8] 8 (fun g s2 s8 wx => ∃ k x,k≤8∧g=8-k∧s8 = .int .i64 (k:Nat)∧s2 = .int .u32 (x:Nat)∧x<4294967296∧Hid (jQ 8 i=jQ (8-k) x)∧wr=wx)
    case atStart=>exact ⟨0,i,by omega,rfl,rfl,by first | rfl | (congr 1; omega),by omega,Lib.hid rfl,rfl⟩
    case round =>
     obtain ⟨k,x,hk,rfl,rfl,rfl,hx,HX,rfl⟩:=hrel
     by_cases hc2:k<8
     · have hkz:(k:Int)<8:=by omega
       obtain ⟨p,hp⟩ : ∃ p,p=x%2:=⟨_,rfl⟩
       have ha:bits .and .u32 (x:Int) 1=(p:Int):=by
        have h:=zcT x 1 hx (by omega)
        rw [Nat.and_one_is_mod,← hp] at h
        exact h
       have hst:jQ (8-k) x=jQ (8-(k+1)) (yG x):=by rw [show 8-k=(8-(k+1))+1 by omega]; rfl
       have HST:=Lib.hid hst
       have hlt:=Lib.hid (XM hx)
       have hxx:=ZK (x/2) 3988292384 (by omega) (by omega)
       rw [show ((x/2:Nat):Int)=(x:Int)/2 by omega] at hxx
       clear hst
       by_cases hp1:p=1
       · have t1:((p:Int)==1)=true:=by simp; omega
         have t1':(p==1)=true:=by simp [hp1]
         have HC:=Lib.hid (show yG x=(x/2) ^^^ 3988292384 from by unfold yG; rw [if_pos (by omega)])
         have HXX:=Lib.hid hxx
         clear hp hxx hp1
         go_wp2
         go_roundg (8-(k+1))
         · exact ⟨k+1,yG x,by omega,rfl,by first | rfl | go_num,by rw [HC.out,← HXX.out]; rfl,hlt.out,Lib.hid (by rw [HX.out,HST.out]),rfl⟩
         · omega
       · have t1:((p:Int)==1)=false:=by simp; omega
         have t1':(p==1)=false:=by simp [hp1]
         have HC:=Lib.hid (show yG x=x/2 from by unfold yG; rw [if_neg (by omega)])
         clear hp hxx hp1
         go_wp2
         go_roundg (8-(k+1))
         · exact ⟨k+1,yG x,by omega,rfl,by first | rfl | go_num,by rw [HC.out]; first | rfl | (congr 1; done) | (congr 1; omega),hlt.out,Lib.hid (by rw [HX.out,HST.out]),rfl⟩
         · omega
     · have hkz : ¬ (k:Int)<8:=by omega
       have hk8:k=8:=by omega
       subst hk8
       have HX2:=Lib.hid (show jQ 8 i=x from HX.out)
       have c1:=hB.cell i (v := .int .u32 ((L[i]'(by omega):Nat):Int)) (by rw [jP]; simp [hL,hc])
       have f1:=hB.frz i
       have hi0:(0:Int)≤(i:Int):=by omega
       generalize L[i]'(by omega)=old at *
       go_wp2
       go_roundg (256-(i+1))
       · refine ⟨i+1,L.set i x,by omega,rfl,by first | rfl | go_num,by rw [← zfO]; exact hB.set i _,by simpa using hL,Lib.hid ?_,hU.setCell (.inr (by exact HB.out)) _⟩
         intro j hj
         by_cases hji:j=i
         · subst hji; rw [List.getElem?_set_self (by omega),HX2.out]
         · rw [List.getElem?_set_ne (by omega)]; exact HJ.out j (by omega)
       · omega
  · have hcz : ¬ (i:Int)<256:=by omega
    have h8:i=256:=by omega
    subst h8
    have hLT:L=ZE:=List.ext_getElem? (fun j=>by
     by_cases hj:j<256
     · rw [HJ.out j hj,zaY hj]
     · rw [List.getElem?_eq_none (by omega),List.getElem?_eq_none (by rw [Xt]; omega)])
    subst hLT
    have HLL:=Lib.hid (Zf ZE)
    have HTL:=Lib.hid Xt
    clear HJ hL
    generalize hTL:ZE=L at *
    have HTT:=Lib.hid hTL
    clear hTL
    go_wp2_with (first
     | (refine zA rfl 64 _ rfl b0 rfl 64 (jP L) hB _ Tryz.underlying64 rfl (by rw [HLL.out,HTL.out]; exact ZO) ?_)
     | (refine zt rfl 64 _ _ rfl b0 rfl (jP L) rfl 64 _ hB (by rw [HLL.out,HTL.out]; exact ZO) rfl (WV _) ?_; intro w2 hB2 hU2))
    refine bodyPost_ret (results_cell_row rfl _ _ b0 64 _ (0,0) _ (by simp) hB2 Tryz.underlying64 rfl (by rw [ZO]; simp [HLL.out,HTL.out])) (by simp) ⟨by rw [HTT.out],?_⟩
    exact hU.trans hU2 (fun k hk => .inr (by have:=HB.out; simp at hk; omega))
end Go.Proofs.YtfkcdnaghndgfaaGreatDoor
namespace Go.Proofs.YtfkcdnaghndgfaaGreatDoor
open Go.RowKit
set_option maxRecDepth 100000 in
set_option maxHeartbeats 1600000 in
theorem zfT (b0 s b:Nat) (w:World) (hB:Blk w b0 (jP ZE) 64) (hs:s<4294967296) (hb:b<256) :
 Calls Tryz.prog 74 #[.pointer (some ⟨b0,0,none⟩),.int .u32 (s:Nat),.int .u8 (b:Nat)] w fun e w'=>e = .returned (.int .u32 (xW s b:Nat))∧w=w':=by
 have hct:=zfv s b
 obtain ⟨r,hr⟩ : ∃ r,r=s%256:=⟨_,rfl⟩
 have z1:(s:Int)%256=(r:Int):=by omega
 have hr2:r<256:=by omega
 have hx:=zje r b hr2 hb
 have hq:r ^^^ b<256:=Nat.xor_lt_two_pow (n:=8) hr2 hb
 rw [← hr] at hct
 generalize r ^^^ b=q at *
 have c1:=hB.cell q (zgR (zaY hq))
 have hy:jQ 8 q<4294967296:=Kc 8 (by omega)
 have hxx:=ZK (jQ 8 q) (s/256) hy (by omega)
 rw [hct] at hxx
 have q0:(0:Int)≤(q:Int):=by omega
 have q1:(q:Int)<256:=by omega
 have e2:((s/256:Nat):Int)=(s:Int)/256:=by omega
 rw [e2] at hxx
 have HR:=Lib.hid hxx
 clear hct hxx e2 hr hB
 generalize jQ 8 q=y at *
 generalize xW s b=z at *
 go_enter Tryz.func74,Tryz.ntmps74
 go_wp2
 go_returns
 exact ⟨by exact congrArg (fun z=>Ending.returned (.int .u32 z)) HR.out,rfl⟩
set_option maxRecDepth 100000 in
set_option maxHeartbeats 1600000 in
theorem zgK (b0 sb s:Nat) (T:ByteArray) (w:World) (hB:Blk w b0 (jP ZE) 64) (hs:s<4294967296) (hT:T.size≤9223372036854775807) (hc0:w.cell? ⟨sb,0,none⟩=some (.string T)) :
 Calls Tryz.prog 39 #[.pointer (some ⟨b0,0,none⟩),.int .u32 (s:Nat),.slice (some ⟨sb,0,none⟩) 1 1] w fun e w'=>e = .returned (.int .u32 (yN s (za T):Nat))∧w=w':=by
 have hlen:=zc T
 go_enter Tryz.func39,Tryz.ntmps39
 go_wp2
 go_loopg [1,12] 1 (fun g s1 s12 wr => ∃ i x,i≤1∧g=1-i∧s12 = .int .i64 (i:Nat)∧s1 = .int .u32 (x:Nat)∧Hid ((i=0→x=s)∧(i=1→x=yN s (za T)))∧w=wr)
 case atStart=>exact ⟨0,s,by omega,rfl,rfl,rfl,Lib.hid ⟨fun _=>rfl,fun h=>by omega⟩,rfl⟩
 case round =>
  obtain ⟨i,x,hi,rfl,rfl,rfl,H,rfl⟩:=hrel
  rcases (by omega:i=0∨i=1) with rfl | rfl
  · have hx0:=H.out.1 rfl
    subst hx0
    clear H
    go_wp2
    go_loopg [1,18] T.size (fun g s1 s18 wr => ∃ i y,i≤T.size∧g=T.size-i∧s18 = .int .i64 (i:Nat)∧s1 = .int .u32 (y:Nat)∧y<4294967296∧Hid (y=yN x ((za T).take i))∧w=wr)
    case atStart=>exact ⟨0,x,by omega,rfl,rfl,rfl,hs,Lib.hid rfl,rfl⟩
    case round =>
     obtain ⟨i,y,hi,rfl,rfl,rfl,hy,H,rfl⟩:=hrel
     by_cases hc:i<T.size
     · have hcz:(i:Int)<(T.size:Int):=by omega
       have hil:i<(za T).length:=by omega
       have hb:(za T)[i]=T[i].toNat:=zM T i hc hil
       have hst:yN x ((za T).take (i+1))=xW y T[i].toNat:=by
        rw [List.take_succ_eq_append_getElem hil,Qi,← H.out,hb]
       have hbl:T[i].toNat<256:=T[i].toNat_lt
       have HS:=Lib.hid hst
       have HB:=Lib.hid (zfT b0 y T[i].toNat w hB hy hbl)
       have hy2:=Lib.hid (JL hy hbl)
       clear hst hb H
       go_wp2_with fail
       refine HB.out.mono ?_
       rintro e w1 ⟨rfl,rfl⟩
       go_wp2
       go_roundg (T.size-(i+1))
       · exact ⟨i+1,_,by omega,rfl,by first | rfl | go_num,rfl,hy2.out,Lib.hid HS.out.symm,rfl⟩
       · omega
     · have hcz : ¬ (i:Int)<(T.size:Int):=by omega
       have h8:i=T.size:=by omega
       have HE:=Lib.hid (show y=yN x (za T) from by rw [H.out,h8,← hlen,List.take_length])
       go_wp2
       go_roundg 0
       · exact ⟨1,y,by omega,rfl,by first | rfl | go_num,rfl,Lib.hid ⟨fun h=>by omega,fun _=>HE.out⟩,rfl⟩
       · omega
  · have H1:=Lib.hid (H.out.2 rfl)
    go_wp2
    go_returns
    exact ⟨by rw [← H1.out]; rfl,rfl⟩
theorem zea (w:World):Calls Tryz.prog 40 #[] w fun e w'=>e = .returned (.int .u32 (4294967295:Nat))∧w=w':=by
 go_enter Tryz.func40,Tryz.ntmps40
 go_wp2
 go_returns
 exact ⟨rfl,rfl⟩
theorem zhx (n:Nat) (h:n<4294967296):4294967295 ^^^ n=4294967295-n:=by
 have e1:4294967295-n=2^32-(n+1):=by omega
 have e2:4294967295=2^32-1:=by omega
 rw [e1]
 apply Nat.eq_of_testBit_eq
 intro i
 rw [Nat.testBit_xor,Nat.testBit_two_pow_sub_succ h,e2,Nat.testBit_two_pow_sub_one]
 by_cases hi:i<32
 · simp [hi]
 · have:n.testBit i=false:=Nat.testBit_lt_two_pow (Nat.lt_of_lt_of_le h (show 2^32≤2^i from Nat.pow_le_pow_right (by omega) (by omega)))
   simp [hi,this]
theorem zh3 (x:Nat) (w:World) (hx:x<4294967296):Calls Tryz.prog 38 #[.int .u32 (x:Nat)] w fun e w'=>e = .returned (.int .u32 (4294967295-x:Nat))∧w=w':=by
 go_enter Tryz.func38,Tryz.ntmps38
 go_wp2
 go_returns
 refine ⟨?_,rfl⟩
 have hx2:=ZK 4294967295 x (by omega) hx
 rw [zhx x hx] at hx2
 exact congrArg (fun z=>Ending.returned (.int .u32 z)) hx2
set_option maxRecDepth 100000 in
set_option maxHeartbeats 1600000 in
theorem zdW (T:ByteArray) (w:World) (hT:T.size≤9223372036854775807):Calls Tryz.prog 19 #[.string T] w fun e w'=>e = .returned (.int .u32 (xa T:Nat))∧Upd [] w w':=by
 have HO:=Lib.hid (show xa T=4294967295-yN 4294967295 (za T) from rfl)
 have hl:=Jy (za T) (s:=4294967295) (by omega) (zP T)
 have HF:=Lib.hid (fun b0 sb w' hB hc=>zgK b0 sb 4294967295 T w' hB (by omega) hT hc)
 generalize yN 4294967295 (za T)=x at *
 have HLL:=Lib.hid (Zf ZE)
 have HTL:=Lib.hid Xt
 go_enter Tryz.func19,Tryz.ntmps19
 go_wp2_with fail
 refine (zeC w).mono ?_
 rintro e w1 ⟨rfl,hU1⟩
 go_wp2_with (first | (refine zt rfl 64 _ _ rfl w1.heap.size rfl (jP ZE) rfl 64 (jP (List.replicate 256 0)) (by rw [Ky]; exact Blk.new w1 _ _) (by rw [ZO]; rfl) (by rw [HLL.out,HTL.out]; rfl) (WV _) ?_; intro w2 hB2 hU2))
 have hU02:Upd [] w w2:=(hU1.then (((Upd.refl [] w1).alloc (.cells (jP (List.replicate 256 0)).toArray 64)))).trans (by rw [Ky] at hU2; exact hU2) (fun k hk => .inr (by have:=hU1.size; simp at hk; omega))
 refine (zea w2).mono ?_
 rintro e w3 ⟨rfl,rfl⟩
 go_wp2_with fail
 have hS:=Blk.new w2 [.string T] 9
 have hB4:=hB2.alloc (.cells #[.string T] 9)
 refine (HF.out w1.heap.size w2.heap.size _ hB4 (hS.cell 0 rfl)).mono ?_
 rintro e w4 ⟨rfl,rfl⟩
 go_wp2_with fail
 refine (zh3 x _ hl).mono ?_
 rintro e w5 ⟨rfl,rfl⟩
 go_wp2
 go_returns
 exact ⟨by rw [HO.out]; rfl,hU02.alloc _⟩
end Go.Proofs.YtfkcdnaghndgfaaGreatDoor
namespace Go.Proofs.YtfkcdnaghndgfaaGreatDoor
open Go.RowKit
def qU (k m:Int) (t:Nat) (D:ByteArray):Value := .agg #[.int .i64 k,.int .i64 m,.int .u32 (t:Nat),.string D]
def yX (k m:Int) (t:Nat) (D:ByteArray):Nat :=
 if k<0∨2<k then 8 else if k=0∧(m≠0∨t≠0∨D.toList≠[]) then 1 else if k=2∧(D.toList≠[]∨t≠0) then 1 else if m<0∨511<m then 12 else if k=1∧Jt t=false then 13 else if 65000<D.size then 4 else 0
theorem zhh (m:Int) (w:World):Calls Tryz.prog 35 #[.int .i64 m] w fun e w'=>e = .returned (.bool (decide (0≤m)&&decide (m≤511)))∧w=w':=by
 by_cases h:0≤m
 · have t1:decide (0≤m)=true:=decide_eq_true h
   go_enter Tryz.func35,Tryz.ntmps35
   go_wp2
   go_returns
   exact ⟨by rw [t1]; rfl,rfl⟩
 · have t1:decide (0≤m)=false:=decide_eq_false h
   go_enter Tryz.func35,Tryz.ntmps35
   go_wp2
   go_returns
   exact ⟨rfl,rfl⟩
set_option maxRecDepth 100000 in
set_option maxHeartbeats 3200000 in
theorem Xn (k m:Int) (t:Nat) (D:ByteArray) (w:World) (ht:t<4294967296) (hD:D.size≤9223372036854775807):Calls Tryz.prog 8 #[qU k m t D] w fun e w'=>e = .returned (.int .i64 (yX k m t D:Nat))∧Upd [] w w':=by
 have HT:=Lib.hid (fun w'=>zaa t w' ht)
 unfold qU
 go_enter Tryz.func8,Tryz.ntmps8
 go_wp2_with (go_at_call 24; refine (HT.out _).mono ?_; rintro e w2 ⟨rfl,hU2⟩; have c3:=((Blk.new w _ _).upd hU2 (by simp)).cell 3 rfl)
 all_goals go_returns
 all_goals (refine ⟨congrArg (fun z=>Ending.returned (.int .i64 z)) ?_,by first | exact (Upd.refl _ _).alloc _ | exact ((Upd.refl _ _).alloc _).then (by assumption)⟩)
 all_goals (clear HT; unfold yX; (repeat' split)<;>first | rfl | (exfalso; omega) | (exfalso; simp_all; done) | (exfalso; simp_all; omega))
set_option maxRecDepth 100000 in
set_option maxHeartbeats 3200000 in
theorem YM (k m:Int) (t:Nat) (D:ByteArray) (w:World) (ht:t<4294967296) (hD:D.size≤9223372036854775807):Calls Tryz.prog 18 #[qU k m t D] w fun e w'=>e = .returned (.int .i64 (yX k m t D:Nat))∧Upd [] w w':=by
 have HT:=Lib.hid (fun w'=>Qj t w' ht)
 have HM:=Lib.hid (fun m w'=>zhh m w')
 unfold qU
 go_enter Tryz.func18,Tryz.ntmps18
 go_wp2_with (first | (go_at_call 36; refine (HT.out _).mono ?_; rintro e w2 ⟨rfl,hU2⟩; have c3:=((Blk.new w _ _).upd hU2 (by simp)).cell 3 rfl) | (go_at_call 35; refine (HM.out _ _).mono ?_; rintro e w2 ⟨rfl,rfl⟩))
 all_goals go_returns
 all_goals (refine ⟨congrArg (fun z=>Ending.returned (.int .i64 z)) ?_,by first | exact (Upd.refl _ _).alloc _ | exact ((Upd.refl _ _).alloc _).then (by assumption)⟩)
 all_goals (clear HT HM; unfold yX; (repeat' split)<;>first | rfl | (exfalso; omega) | (exfalso; simp_all; done) | (exfalso; simp_all; omega))
end Go.Proofs.YtfkcdnaghndgfaaGreatDoor
namespace Go.Proofs.YtfkcdnaghndgfaaGreatDoor
open Go.RowKit
def yD (p:ByteArray) (k m:Int) (t:Nat) (D:ByteArray):Nat :=
 if yX k m t D≠0 then yX k m t D else if k=0 then 8 else if xM ⟨p,0,0,0,0,k,m,t,0⟩=false then 5 else 0
structure LaidE (p:ByteArray) (k m:Int) (t:Nat) (D:ByteArray) (r:RecD) (X:ByteArray):Prop where
 fits:r.Fits
 right:yt r=0
 hp:r.p=p
 hk:r.k=k
 hmd:r.md=m
 hpos:r.pos=0
 hwh:r.wh=D.size
 hl:r.l=X.size
 file:k=1→r.t=t∧r.sum=xa D∧((r.m=0∧X=D)∨(r.m=8∧X.size<D.size∧BackP D X))
 dir:k≠1→k=2∧t=0∧D=⟨#[]⟩∧X=⟨#[]⟩∧r.t=2162688∧r.sum=0∧r.m=0
def RecD.to (r:RecD) (a:Int):RecD:=⟨r.p,r.m,r.sum,r.l,r.wh,r.k,r.md,r.t,a⟩
theorem RecD.to_right {r:RecD} {a:Nat} (h:yt r=0) (ha:a<2147483648):yt (r.to a)=0:=by
 obtain ⟨h1,h2,h3,h4⟩:=jm h
 have hn:xM (r.to a)=true:=h1
 have hl:xj (r.to a)=true:=by
  have h2':=h2
  unfold xj at h2' ⊢
  split at h2'
  · cases h2'
  rename_i h5
  rw [if_neg (by
   simp only [not_or] at h5 ⊢
   exact ⟨h5.1,h5.2.1,h5.2.2.1,by unfold yd RecD.to; simp; omega⟩)]
  exact h2'
 unfold yt
 rw [hn,hl,if_neg (by simp),if_neg (by simp),if_neg (show ¬ ((r.to a).md<0∨511<(r.to a).md) from h3),if_neg (by rw [show xq (r.to a).k (r.to a).t=true from h4]; simp)]
theorem km {k m:Int} {t:Nat} {D:ByteArray} (h:yX k m t D=0):(k=0∨k=1∨k=2)∧(k=2→D=⟨#[]⟩∧t=0)∧(0≤m∧m≤511)∧(k=1→Jt t=true)∧D.size≤65000:=by
 have hD : ∀ D:ByteArray,D.toList=[]→D=⟨#[]⟩:=fun D h=>by
  rw [ByteArray.toList_eq] at h
  exact ByteArray.ext (Array.ext' h)
 unfold yX at h
 split at h
 · cases h
 rename_i h1
 split at h
 · cases h
 split at h
 · cases h
 rename_i h2
 split at h
 · cases h
 rename_i h3
 split at h
 · cases h
 rename_i h4
 split at h
 · cases h
 rename_i h5
 refine ⟨by omega,fun hk=>?_,by omega,fun hk=>?_,by omega⟩
 · simp only [hk,true_and,not_or,Decidable.not_not] at h2
   exact ⟨hD D h2.1,h2.2⟩
 · simpa [hk] using h4
theorem Vc {p:ByteArray} {k m:Int} {t:Nat} {D:ByteArray} (h:yD p k m t D=0) (hp:p.size≤300) (ht:t<4294967296) (M:Int) (X:ByteArray)
 (hm:M=0∨M=8) (hf:k=1→(M=0∧X=D)∨(M=8∧X.size<D.size)) (hd:k≠1→M=0∧X=⟨#[]⟩) :
 yt ⟨p,M,if k=1 then xa D else 0,X.size,D.size,k,m,if k=1 then t else 2162688,0⟩=0:=by
 unfold yD at h
 split at h
 · rename_i h1; exact absurd h h1
 rename_i h1
 split at h
 · cases h
 rename_i h2
 split at h
 · cases h
 rename_i h3
 obtain ⟨q1,q2,q3,q4,q5⟩:=km (by simpa using h1)
 have hn:xM ⟨p,M,if k=1 then xa D else 0,X.size,D.size,k,m,if k=1 then t else 2162688,0⟩=true:=by
  have:xM ⟨p,0,0,0,0,k,m,t,0⟩=true:=by simpa using h3
  exact this
 have hl:xj ⟨p,M,if k=1 then xa D else 0,X.size,D.size,k,m,if k=1 then t else 2162688,0⟩=true:=by
  have hx:X.size≤65000:=by
   by_cases hk:k=1
   · rcases hf hk with ⟨_,rfl⟩ | ⟨_,h⟩<;>omega
   · rw [(hd hk).2]; decide
  unfold xj
  dsimp only
  rw [if_neg (by unfold yd; simp; omega)]
  by_cases hk:k=2
  · subst hk
    obtain ⟨rfl,rfl⟩:=q2 rfl
    obtain ⟨rfl,rfl⟩:=hd (by decide)
    rfl
  · rw [if_neg hk]
    have hk1:k=1:=by omega
    rcases hf hk1 with ⟨_,rfl⟩ | ⟨h8,_⟩
    · simp
    · simp [h8]
 have hr:xq k (if k=1 then t else 2162688)=true:=by
  unfold xq
  by_cases hk:k=2
  · subst hk; rfl
  · rw [if_neg hk,if_pos (by omega)]; exact q4 (by omega)
 unfold yt
 rw [hn,hl,if_neg (by simp),if_neg (by simp),if_neg (by dsimp only; omega),if_neg (by dsimp only; rw [hr]; simp)]
theorem WO (D:ByteArray):xa D<4294967296:=by unfold xa; omega
theorem LaidE.mk' {p:ByteArray} {k m:Int} {t:Nat} {D:ByteArray} (h:yD p k m t D=0) (hp:p.size≤300) (ht:t<4294967296) (M:Int) (X:ByteArray)
 (hm:M=0∨M=8) (hf:k=1→(M=0∧X=D)∨(M=8∧X.size<D.size∧BackP D X)) (hd:k≠1→M=0∧X=⟨#[]⟩) :
 LaidE p k m t D ⟨p,M,if k=1 then xa D else 0,X.size,D.size,k,m,if k=1 then t else 2162688,0⟩ X where
 fits:=⟨by dsimp only; omega,by dsimp only; split; exact WO D; decide,by dsimp only; split<;>omega⟩
 right:=Vc h hp ht M X hm (fun hk=>(hf hk).imp id (fun h=>⟨h.1,h.2.1⟩)) hd
 hp:=rfl
 hk:=rfl
 hmd:=rfl
 hpos:=rfl
 hwh:=rfl
 hl:=rfl
 file:=fun hk=>⟨if_pos hk,if_pos hk,hf hk⟩
 dir:=fun hk=>by
  unfold yD at h
  split at h
  · rename_i h1; exact absurd h h1
  rename_i h1
  split at h
  · cases h
  obtain ⟨q1,q2,q3,q4,q5⟩:=km (by simpa using h1)
  have hk2:k=2:=by omega
  exact ⟨hk2,(q2 hk2).2,(q2 hk2).1,(hd hk).2,if_neg hk,if_neg hk,(hd hk).1⟩
theorem zeh {p:ByteArray} {k m:Int} {t:Nat} {D:ByteArray} {r:RecD} {X:ByteArray} (h:LaidE p k m t D r X) (A B:ByteArray) (hA:A.size<2147483648) (hD:D.size≤65000) :
 qt (A++(zd (yx r)++X)++B) (r.to A.size)=(D,(((zd (yx r)++X).size:Nat):Int),0):=by
 have hr:=RecD.to_right h.right hA
 have hsz:(zd (yx r)++X).size=30+(zl r.k r.p).length+X.size:=by rw [ByteArray.size_append,zo,qz]
 have hb:za ((A++(zd (yx r)++X)++B).extract A.size (A++(zd (yx r)++X)++B).size)=yx (r.to A.size)++(za X++za B):=by
  rw [zI,yY,yY,yY,zx _ (Yt r)]
  rw [show (za A++(yx r++za X)++za B)=za A++(yx r++(za X++za B)) by simp only [List.append_assoc]]
  rw [List.drop_left' (by rw [zc]),List.take_of_length_le]
  · rfl
  · simp only [List.length_append,zc,ByteArray.size_append,zo]; omega
 have hx:=zct (r.to A.size) _ (za X++za B) A.size ⟨h.fits.p,h.fits.sum,h.fits.t⟩ hr hb
 have hrd:zp (A++(zd (yx r)++X)++B) (A.size:Nat)=(⟨r.p,r.m,r.sum,r.l,r.wh,r.k,0,r.t,A.size⟩,30+(zl r.k r.p).length,false,0):=by
  unfold zp
  rw [if_neg (by simp only [ByteArray.size_append]; omega)]
  exact hx
 have hcut:(A++(zd (yx r)++X)++B).extract (A.size+(30+(zl r.k r.p).length)) (A.size+(30+(zl r.k r.p).length)+X.size)=X:=by
  apply ByteArray.ext
  apply Array.ext'
  have e:za ((A++(zd (yx r)++X)++B).extract (A.size+(30+(zl r.k r.p).length)) (A.size+(30+(zl r.k r.p).length)+X.size))=za X:=by
   rw [zI,yY,yY,yY,zx _ (Yt r)]
   rw [show (za A++(yx r++za X)++za B)=(za A++yx r)++(za X++za B) by simp only [List.append_assoc]]
   rw [List.drop_left' (by rw [List.length_append,zc,qz]),List.take_left' (by rw [zc]; omega)]
  have e2:=congrArg zd e
  rw [zu,zu] at e2
  rw [e2]
 have hw:qB X (r.to A.size)=(D,0):=by
  have hwh:(r.to A.size).wh=(D.size:Nat):=h.hwh
  have hfin : ∀ s:Nat,(r.to A.size).sum=s→((r.to A.size).k=1→xa D=s)→Yk D (r.to A.size)=(D,0):=fun s h1 h2=>by
   unfold Yk
   rw [if_neg (by rw [hwh]; omega),if_neg (by rw [hwh]; simp),if_neg (fun hc=>hc.2 (by rw [h1]; exact h2 hc.1))]
  unfold qB
  by_cases hk:k=1
  · obtain ⟨f1,f2,f3 | f3⟩:=h.file hk
    · rw [if_neg (by show ¬ r.m=8; rw [f3.1]; decide),f3.2]
      exact hfin _ f2 (fun _=>rfl)
    · have hc:D.size≤XQ (D.size:Nat):=by unfold XQ; omega
      rw [if_pos (show (r.to A.size).m=8 from f3.1),hwh]
      have hv:=f3.2.2.val (D.size:Nat) hc
      rw [zcY] at hv
      injection hv with hv
      simp only [Array.mk.injEq,List.cons.injEq,Value.string.injEq,Value.int.injEq,true_and,and_true] at hv
      obtain ⟨e1,e2,e3⟩:=hv
      rw [if_neg (by omega),if_neg (by omega),e1]
      exact hfin _ f2 (fun _=>rfl)
  · obtain ⟨d1,d2,d3,d4,d5,d6,d7⟩:=h.dir hk
    rw [if_neg (by show ¬ r.m=8; rw [d7]; decide),d4,← d3]
    exact hfin _ rfl (fun hk1=>absurd (h.hk.symm.trans hk1) hk)
 have hl:(r.to A.size).l=(X.size:Nat):=h.hl
 unfold qt
 rw [if_neg (by rw [hr]; simp)]
 rw [show (r.to A.size).pos=(A.size:Nat) from rfl,hrd]
 dsimp only
 rw [if_neg (by simp),if_neg (by simp [XA,RecD.to])]
 have ht:vz (A++(zd (yx r)++X)++B) ⟨r.p,r.m,r.sum,r.l,r.wh,r.k,0,r.t,A.size⟩ (r.to A.size) ((A.size:Nat)+((30+(zl r.k r.p).length:Nat):Int)) false=(0,0):=by
  unfold vz
  rw [if_neg (by simp),if_neg (by simp [RecD.to])]
 rw [ht]
 dsimp only
 rw [if_neg (by simp),hl,if_neg (by simp only [ByteArray.size_append,zo,qz]; omega)]
 rw [show (((A.size:Nat):Int)+((30+(zl r.k r.p).length:Nat):Int)).toNat=A.size+(30+(zl r.k r.p).length) by omega,show (((A.size:Nat):Int)+((30+(zl r.k r.p).length:Nat):Int)+(X.size:Nat)).toNat=A.size+(30+(zl r.k r.p).length)+X.size by omega,hcut,hw]
 dsimp only
 rw [if_neg (by simp),hsz]
 simp
end Go.Proofs.YtfkcdnaghndgfaaGreatDoor
