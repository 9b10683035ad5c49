/- Package sum: Made: its walk. -/
import Derived.Test.YtfkcdnaghndgfaaGreatDoorQAQ
import Derived.WalkKit
import Derived.Handy
import Derived.Outline
import Derived.BigQuiet
import Derived.Deep.CutBlock
import Derived.Deep.DeepCutAuto
import Derived.Deep.DeepFit
import Derived.Deep.Light
import Derived.Deep.LoopGhost
import Derived.Deep.QuietTactic
import Derived.Deep.RegionHeld3
import Derived.Deep.RegionLaw
import Derived.IntWalk
import Derived.Laws.BitsAllLaws
import Derived.Lib.MinMax
import Derived.StillTailTactics
import Derived.WalkSpells
import Derived.Lib.Hide
set_option linter.unusedVariables false
set_option linter.unusedSimpArgs false
set_option linter.unusedSectionVars false
namespace Go.Proofs.YtfkcdnaghndgfaaGreatDoor
open Go.RowKit
def jQ (l:List Nat):List Value:=l.map fun x:Nat => .int .u32 (x:Int)
theorem zaD (l:List Nat) : ∀ v∈jQ l,v.oneCell'=true:=by intro v hv; obtain ⟨x,_,rfl⟩:=List.mem_map.1 hv; rfl
theorem ZF (l:List Nat):(jQ l).length=l.length:=by simp [jQ]
theorem zfp (l:List Nat) (i x:Nat):(jQ l).set i (.int .u32 (x:Nat))=jQ (l.set i x):=by simp [jQ]
theorem zgz {l:List Nat} {i x:Nat} (h:l[i]? =some x):(jQ l)[i]? =some (.int .u32 (x:Int)):=by simp [jQ,h]
def ZO:List Nat:=(List.range 256).map (kF 8)
theorem Kz:Tryz.zeroCells64=(jQ (List.replicate 256 0)).toArray:=by kernel_rfl
theorem ZQ:(Tryz.prog.info? 64).map (·.size)=some 256:=by kernel_rfl
theorem Ya:ZO.length=256:=by simp [ZO]
theorem zaP {i:Nat} (h:i<256):ZO[i]? =some (kF 8 i):=by simp [ZO,h]
set_option maxRecDepth 100000 in
set_option maxHeartbeats 3200000 in
theorem zec (w:World):Calls Tryz.prog 37 #[] w fun e w'=>e = .returned (.agg (jQ ZO).toArray)∧Upd [] w w':=by
 go_enter Tryz.func37,Tryz.ntmps37
 go_wp2
 have hB0:=Blk.new w (jQ (List.replicate 256 0)) 64
 have hU0:Upd [] w (w.alloc (.cells (jQ (List.replicate 256 0)).toArray 64)):=(Upd.refl [] w).alloc _
 rw [Kz]
 generalize w.alloc (.cells (jQ (List.replicate 256 0)).toArray 64)=w0 at *
 have HW:=Lib.hid (Nat.le_refl w.heap.size)
 obtain ⟨b0,hb0⟩ : ∃ b0,w.heap.size=b0:=⟨_,rfl⟩
 rw [hb0] at hB0 ⊢
 have HB:=Lib.hid (show w.heap.size≤b0 by omega)
 clear hb0 HW
 go_loopg [3] 256 (fun g s3 wr => ∃ i L,i≤256∧g=256-i∧s3 = .int .i64 (i:Nat)∧Blk wr b0 (jQ L) 64∧L.length=256∧Hid (∀ j,j<i→L[j]? =some (kF 8 j))∧Upd [] w wr)
 case atStart=>exact ⟨0,List.replicate 256 0,by omega,rfl,rfl,hB0,by simp,Lib.hid (fun j h=>by omega),hU0⟩
 case round =>
  obtain ⟨i,L,hi,rfl,rfl,hB,hL,HJ,hU⟩:=hrel
  clear hB0 hU0
  by_cases hc:i<256
  · have hcz:(i:Int)<256:=by omega
    have e0:IntKind.u32.wrap (i:Int)=(i:Int):=kT i (by omega)
    go_wp2
    go_loopg [2,8] 8 (fun g s2 s8 wx => ∃ k x,k≤8∧g=8-k∧s8 = .int .i64 (k:Nat)∧s2 = .int .u32 (x:Nat)∧x<4294967296∧Hid (kF 8 i=kF (8-k) x)∧wr=wx)
    case atStart=>exact ⟨0,i,by omega,rfl,rfl,by first | rfl | (congr 1; omega),by omega,Lib.hid rfl,rfl⟩
    case round =>
     obtain ⟨k,x,hk,rfl,rfl,rfl,hx,HX,rfl⟩:=hrel
     by_cases hc2:k<8
     · have hkz:(k:Int)<8:=by omega
       obtain ⟨p,hp⟩ : ∃ p,p=x%2:=⟨_,rfl⟩
       have ha:bits .and .u32 (x:Int) 1=(p:Int):=by
        have h:=zde x 1 hx (by omega)
        rw [Nat.and_one_is_mod,← hp] at h
        exact h
       have hst:kF (8-k) x=kF (8-(k+1)) (xh x):=by rw [show 8-k=(8-(k+1))+1 by omega]; rfl
       have HST:=Lib.hid hst
       have hlt:=Lib.hid (Yt hx)
       have hxx:=VV (x/2) 3988292384 (by omega) (by omega)
       rw [show ((x/2:Nat):Int)=(x:Int)/2 by omega] at hxx
       clear hst
       by_cases hp1:p=1
       · have t1:((p:Int)==1)=true:=by simp; omega
         have t1':(p==1)=true:=by simp [hp1]
         have HC:=Lib.hid (show xh x=(x/2) ^^^ 3988292384 from by unfold xh; rw [if_pos (by omega)])
         have HXX:=Lib.hid hxx
         clear hp hxx hp1
         go_wp2
         go_roundg (8-(k+1))
         · exact ⟨k+1,xh x,by omega,rfl,by first | rfl | go_num,by rw [HC.out,← HXX.out]; rfl,hlt.out,Lib.hid (by rw [HX.out,HST.out]),rfl⟩
         · omega
       · have t1:((p:Int)==1)=false:=by simp; omega
         have t1':(p==1)=false:=by simp [hp1]
         have HC:=Lib.hid (show xh x=x/2 from by unfold xh; rw [if_neg (by omega)])
         clear hp hxx hp1
         go_wp2
         go_roundg (8-(k+1))
         · exact ⟨k+1,xh x,by omega,rfl,by first | rfl | go_num,by rw [HC.out]; first | rfl | (congr 1; done) | (congr 1; omega),hlt.out,Lib.hid (by rw [HX.out,HST.out]),rfl⟩
         · omega
     · have hkz : ¬ (k:Int)<8:=by omega
       have hk8:k=8:=by omega
       subst hk8
       have HX2:=Lib.hid (show kF 8 i=x from HX.out)
       have c1:=hB.cell i (v := .int .u32 ((L[i]'(by omega):Nat):Int)) (by rw [jQ]; simp [hL,hc])
       have f1:=hB.frz i
       have hi0:(0:Int)≤(i:Int):=by omega
       generalize L[i]'(by omega)=old at *
       go_wp2
       go_roundg (256-(i+1))
       · refine ⟨i+1,L.set i x,by omega,rfl,by first | rfl | go_num,by rw [← zfp]; exact hB.set i _,by simpa using hL,Lib.hid ?_,hU.setCell (.inr (by exact HB.out)) _⟩
         intro j hj
         by_cases hji:j=i
         · subst hji; rw [List.getElem?_set_self (by omega),HX2.out]
         · rw [List.getElem?_set_ne (by omega)]; exact HJ.out j (by omega)
       · omega
  · have hcz : ¬ (i:Int)<256:=by omega
    have h8:i=256:=by omega
    subst h8
    have hLT:L=ZO:=List.ext_getElem? (fun j=>by
     by_cases hj:j<256
     · rw [HJ.out j hj,zaP hj]
     · rw [List.getElem?_eq_none (by omega),List.getElem?_eq_none (by rw [Ya]; omega)])
    subst hLT
    have HLL:=Lib.hid (ZF ZO)
    have HTL:=Lib.hid Ya
    clear HJ hL
    generalize hTL:ZO=L at *
    have HTT:=Lib.hid hTL
    clear hTL
    go_wp2_with (first
     | (refine zr rfl 64 _ rfl b0 rfl 64 (jQ L) hB _ Tryz.underlying64 rfl (by rw [HLL.out,HTL.out]; exact ZQ) ?_)
     | (refine zs rfl 64 _ _ rfl b0 rfl (jQ L) rfl 64 _ hB (by rw [HLL.out,HTL.out]; exact ZQ) rfl (zaD _) ?_; intro w2 hB2 hU2))
    refine bodyPost_ret (results_cell_row rfl _ _ b0 64 _ (0,0) _ (by simp) hB2 Tryz.underlying64 rfl (by rw [ZQ]; simp [HLL.out,HTL.out])) (by simp) ⟨by rw [HTT.out],?_⟩
    exact hU.trans hU2 (fun k hk => .inr (by have:=HB.out; simp at hk; omega))
end Go.Proofs.YtfkcdnaghndgfaaGreatDoor
namespace Go.Proofs.YtfkcdnaghndgfaaGreatDoor
open Go.RowKit
set_option maxRecDepth 100000 in
set_option maxHeartbeats 1600000 in
theorem zfk (b0 s b:Nat) (w:World) (hB:Blk w b0 (jQ ZO) 64) (hs:s<4294967296) (hb:b<256) :
 Calls Tryz.prog 74 #[.pointer (some ⟨b0,0,none⟩),.int .u32 (s:Nat),.int .u8 (b:Nat)] w fun e w'=>e = .returned (.int .u32 (jV s b:Nat))∧w=w':=by
 have hct:=zey s b
 obtain ⟨r,hr⟩ : ∃ r,r=s%256:=⟨_,rfl⟩
 have z1:(s:Int)%256=(r:Int):=by omega
 have hr2:r<256:=by omega
 have hx:=zin r b hr2 hb
 have hq:r ^^^ b<256:=Nat.xor_lt_two_pow (n:=8) hr2 hb
 rw [← hr] at hct
 generalize r ^^^ b=q at *
 have c1:=hB.cell q (zgz (zaP hq))
 have hy:kF 8 q<4294967296:=Kj 8 (by omega)
 have hxx:=VV (kF 8 q) (s/256) hy (by omega)
 rw [hct] at hxx
 have q0:(0:Int)≤(q:Int):=by omega
 have q1:(q:Int)<256:=by omega
 have e2:((s/256:Nat):Int)=(s:Int)/256:=by omega
 rw [e2] at hxx
 have HR:=Lib.hid hxx
 clear hct hxx e2 hr hB
 generalize kF 8 q=y at *
 generalize jV s b=z at *
 go_enter Tryz.func74,Tryz.ntmps74
 go_wp2
 go_returns
 exact ⟨by exact congrArg (fun z=>Ending.returned (.int .u32 z)) HR.out,rfl⟩
set_option maxRecDepth 100000 in
set_option maxHeartbeats 1600000 in
theorem zgT (b0 sb s:Nat) (T:ByteArray) (w:World) (hB:Blk w b0 (jQ ZO) 64) (hs:s<4294967296) (hT:T.size≤9223372036854775807) (hc0:w.cell? ⟨sb,0,none⟩=some (.string T)) :
 Calls Tryz.prog 39 #[.pointer (some ⟨b0,0,none⟩),.int .u32 (s:Nat),.slice (some ⟨sb,0,none⟩) 1 1] w fun e w'=>e = .returned (.int .u32 (xN s (zc T):Nat))∧w=w':=by
 have hlen:=zd T
 go_enter Tryz.func39,Tryz.ntmps39
 go_wp2
 go_loopg [1,12] 1 (fun g s1 s12 wr => ∃ i x,i≤1∧g=1-i∧s12 = .int .i64 (i:Nat)∧s1 = .int .u32 (x:Nat)∧Hid ((i=0→x=s)∧(i=1→x=xN s (zc T)))∧w=wr)
 case atStart=>exact ⟨0,s,by omega,rfl,rfl,rfl,Lib.hid ⟨fun _=>rfl,fun h=>by omega⟩,rfl⟩
 case round =>
  obtain ⟨i,x,hi,rfl,rfl,rfl,H,rfl⟩:=hrel
  rcases (by omega:i=0∨i=1) with rfl | rfl
  · have hx0:=H.out.1 rfl
    subst hx0
    clear H
    go_wp2
    go_loopg [1,18] T.size (fun g s1 s18 wr => ∃ i y,i≤T.size∧g=T.size-i∧s18 = .int .i64 (i:Nat)∧s1 = .int .u32 (y:Nat)∧y<4294967296∧Hid (y=xN x ((zc T).take i))∧w=wr)
    case atStart=>exact ⟨0,x,by omega,rfl,rfl,rfl,hs,Lib.hid rfl,rfl⟩
    case round =>
     obtain ⟨i,y,hi,rfl,rfl,rfl,hy,H,rfl⟩:=hrel
     by_cases hc:i<T.size
     · have hcz:(i:Int)<(T.size:Int):=by omega
       have hil:i<(zc T).length:=by omega
       have hb:(zc T)[i]=T[i].toNat:=yf T i hc hil
       have hst:xN x ((zc T).take (i+1))=jV y T[i].toNat:=by
        rw [List.take_succ_eq_append_getElem hil,Km,← H.out,hb]
       have hbl:T[i].toNat<256:=T[i].toNat_lt
       have HS:=Lib.hid hst
       have HB:=Lib.hid (zfk b0 y T[i].toNat w hB hy hbl)
       have hy2:=Lib.hid (ZW hy hbl)
       clear hst hb H
       go_wp2_with fail
       refine HB.out.mono ?_
       rintro e w1 ⟨rfl,rfl⟩
       go_wp2
       go_roundg (T.size-(i+1))
       · exact ⟨i+1,_,by omega,rfl,by first | rfl | go_num,rfl,hy2.out,Lib.hid HS.out.symm,rfl⟩
       · omega
     · have hcz : ¬ (i:Int)<(T.size:Int):=by omega
       have h8:i=T.size:=by omega
       have HE:=Lib.hid (show y=xN x (zc T) from by rw [H.out,h8,← hlen,List.take_length])
       go_wp2
       go_roundg 0
       · exact ⟨1,y,by omega,rfl,by first | rfl | go_num,rfl,Lib.hid ⟨fun h=>by omega,fun _=>HE.out⟩,rfl⟩
       · omega
  · have H1:=Lib.hid (H.out.2 rfl)
    go_wp2
    go_returns
    exact ⟨by rw [← H1.out]; rfl,rfl⟩
theorem zee (w:World):Calls Tryz.prog 40 #[] w fun e w'=>e = .returned (.int .u32 (4294967295:Nat))∧w=w':=by
 go_enter Tryz.func40,Tryz.ntmps40
 go_wp2
 go_returns
 exact ⟨rfl,rfl⟩
theorem zhM (n:Nat) (h:n<4294967296):4294967295 ^^^ n=4294967295-n:=by
 have e1:4294967295-n=2^32-(n+1):=by omega
 have e2:4294967295=2^32-1:=by omega
 rw [e1]
 apply Nat.eq_of_testBit_eq
 intro i
 rw [Nat.testBit_xor,Nat.testBit_two_pow_sub_succ h,e2,Nat.testBit_two_pow_sub_one]
 by_cases hi:i<32
 · simp [hi]
 · have:n.testBit i=false:=Nat.testBit_lt_two_pow (Nat.lt_of_lt_of_le h (show 2^32≤2^i from Nat.pow_le_pow_right (by omega) (by omega)))
   simp [hi,this]
theorem zho (x:Nat) (w:World) (hx:x<4294967296):Calls Tryz.prog 38 #[.int .u32 (x:Nat)] w fun e w'=>e = .returned (.int .u32 (4294967295-x:Nat))∧w=w':=by
 go_enter Tryz.func38,Tryz.ntmps38
 go_wp2
 go_returns
 refine ⟨?_,rfl⟩
 have hx2:=VV 4294967295 x (by omega) hx
 rw [zhM x hx] at hx2
 exact congrArg (fun z=>Ending.returned (.int .u32 z)) hx2
set_option maxRecDepth 100000 in
set_option maxHeartbeats 1600000 in
theorem QN (T:ByteArray) (w:World) (hT:T.size≤9223372036854775807):Calls Tryz.prog 19 #[.string T] w fun e w'=>e = .returned (.int .u32 (xw T:Nat))∧Upd [] w w':=by
 have HO:=Lib.hid (show xw T=4294967295-xN 4294967295 (zc T) from rfl)
 have hl:=XZ (zc T) (s:=4294967295) (by omega) (zT T)
 have HF:=Lib.hid (fun b0 sb w' hB hc=>zgT b0 sb 4294967295 T w' hB (by omega) hT hc)
 generalize xN 4294967295 (zc T)=x at *
 have HLL:=Lib.hid (ZF ZO)
 have HTL:=Lib.hid Ya
 go_enter Tryz.func19,Tryz.ntmps19
 go_wp2_with fail
 refine (zec w).mono ?_
 rintro e w1 ⟨rfl,hU1⟩
 go_wp2_with (first | (refine zs rfl 64 _ _ rfl w1.heap.size rfl (jQ ZO) rfl 64 (jQ (List.replicate 256 0)) (by rw [Kz]; exact Blk.new w1 _ _) (by rw [ZQ]; rfl) (by rw [HLL.out,HTL.out]; rfl) (zaD _) ?_; intro w2 hB2 hU2))
 have hU02:Upd [] w w2:=(hU1.then (((Upd.refl [] w1).alloc (.cells (jQ (List.replicate 256 0)).toArray 64)))).trans (by rw [Kz] at hU2; exact hU2) (fun k hk => .inr (by have:=hU1.size; simp at hk; omega))
 refine (zee w2).mono ?_
 rintro e w3 ⟨rfl,rfl⟩
 go_wp2_with fail
 have hS:=Blk.new w2 [.string T] 9
 have hB4:=hB2.alloc (.cells #[.string T] 9)
 refine (HF.out w1.heap.size w2.heap.size _ hB4 (hS.cell 0 rfl)).mono ?_
 rintro e w4 ⟨rfl,rfl⟩
 go_wp2_with fail
 refine (zho x _ hl).mono ?_
 rintro e w5 ⟨rfl,rfl⟩
 go_wp2
 go_returns
 exact ⟨by rw [HO.out]; rfl,hU02.alloc _⟩
end Go.Proofs.YtfkcdnaghndgfaaGreatDoor
namespace Go.Proofs.YtfkcdnaghndgfaaGreatDoor
open Go.RowKit
def Qe (k m:Int) (t:Nat) (D:ByteArray):Value := .agg #[.int .i64 k,.int .i64 m,.int .u32 (t:Nat),.string D]
def qN (k m:Int) (t:Nat) (D:ByteArray):Nat :=
 if k<0∨2<k then 8 else if k=0∧(m≠0∨t≠0∨D.toList≠[]) then 1 else if k=2∧(D.toList≠[]∨t≠0) then 1 else if m<0∨511<m then 12 else if k=1∧Vi t=false then 13 else if 65000<D.size then 4 else 0
theorem zgN (m:Int) (w:World):Calls Tryz.prog 35 #[.int .i64 m] w fun e w'=>e = .returned (.bool (decide (0≤m)&&decide (m≤511)))∧w=w':=by
 by_cases h:0≤m
 · have t1:decide (0≤m)=true:=decide_eq_true h
   go_enter Tryz.func35,Tryz.ntmps35
   go_wp2
   go_returns
   exact ⟨by rw [t1]; rfl,rfl⟩
 · have t1:decide (0≤m)=false:=decide_eq_false h
   go_enter Tryz.func35,Tryz.ntmps35
   go_wp2
   go_returns
   exact ⟨rfl,rfl⟩
set_option maxRecDepth 100000 in
set_option maxHeartbeats 3200000 in
theorem YH (k m:Int) (t:Nat) (D:ByteArray) (w:World) (ht:t<4294967296) (hD:D.size≤9223372036854775807):Calls Tryz.prog 18 #[Qe k m t D] w fun e w'=>e = .returned (.int .i64 (qN k m t D:Nat))∧Upd [] w w':=by
 have HT:=Lib.hid (fun w'=>Ql t w' ht)
 have HM:=Lib.hid (fun m w'=>zgN m w')
 unfold Qe
 go_enter Tryz.func18,Tryz.ntmps18
 go_wp2_with (first | (go_at_call 36; refine (HT.out _).mono ?_; rintro e w2 ⟨rfl,hU2⟩; have c3:=((Blk.new w _ _).upd hU2 (by simp)).cell 3 rfl) | (go_at_call 35; refine (HM.out _ _).mono ?_; rintro e w2 ⟨rfl,rfl⟩))
 all_goals go_returns
 all_goals (refine ⟨congrArg (fun z=>Ending.returned (.int .i64 z)) ?_,by first | exact (Upd.refl _ _).alloc _ | exact ((Upd.refl _ _).alloc _).then (by assumption)⟩)
 all_goals (clear HT HM; unfold qN; (repeat' split)<;>first | rfl | (exfalso; omega) | (exfalso; simp_all; done) | (exfalso; simp_all; omega))
end Go.Proofs.YtfkcdnaghndgfaaGreatDoor
namespace Go.Proofs.YtfkcdnaghndgfaaGreatDoor
open Go.RowKit
def yZ (p:ByteArray) (k m:Int) (t:Nat) (D:ByteArray):Nat :=
 if qN k m t D≠0 then qN k m t D else if k=0 then 8 else if js ⟨p,0,0,0,0,k,m,t,0⟩=false then 5 else 0
structure LaidE (p:ByteArray) (k m:Int) (t:Nat) (D:ByteArray) (r:RecD) (X:ByteArray):Prop where
 fits:r.Fits
 right:yu r=0
 hp:r.p=p
 hk:r.k=k
 hmd:r.md=m
 hpos:r.pos=0
 hwh:r.wh=D.size
 hl:r.l=X.size
 file:k=1→r.t=t∧r.sum=xw D∧((r.m=0∧X=D)∨(r.m=8∧X.size<D.size∧BackP D X))
 dir:k≠1→k=2∧t=0∧D=⟨#[]⟩∧X=⟨#[]⟩∧r.t=2162688∧r.sum=0∧r.m=0
def RecD.to (r:RecD) (a:Int):RecD:=⟨r.p,r.m,r.sum,r.l,r.wh,r.k,r.md,r.t,a⟩
theorem RecD.to_right {r:RecD} {a:Nat} (h:yu r=0) (ha:a<2147483648):yu (r.to a)=0:=by
 obtain ⟨h1,h2,h3,h4⟩:=qm h
 have hn:js (r.to a)=true:=h1
 have hl:kH (r.to a)=true:=by
  have h2':=h2
  unfold kH at h2' ⊢
  split at h2'
  · cases h2'
  rename_i h5
  rw [if_neg (by
   simp only [not_or] at h5 ⊢
   exact ⟨h5.1,h5.2.1,h5.2.2.1,by unfold ql RecD.to; simp; omega⟩)]
  exact h2'
 unfold yu
 rw [hn,hl,if_neg (by simp),if_neg (by simp),if_neg (show ¬ ((r.to a).md<0∨511<(r.to a).md) from h3),if_neg (by rw [show qE (r.to a).k (r.to a).t=true from h4]; simp)]
theorem ki {k m:Int} {t:Nat} {D:ByteArray} (h:qN k m t D=0):(k=0∨k=1∨k=2)∧(k=2→D=⟨#[]⟩∧t=0)∧(0≤m∧m≤511)∧(k=1→Vi t=true)∧D.size≤65000:=by
 have hD : ∀ D:ByteArray,D.toList=[]→D=⟨#[]⟩:=fun D h=>by
  rw [ByteArray.toList_eq] at h
  exact ByteArray.ext (Array.ext' h)
 unfold qN at h
 split at h
 · cases h
 rename_i h1
 split at h
 · cases h
 split at h
 · cases h
 rename_i h2
 split at h
 · cases h
 rename_i h3
 split at h
 · cases h
 rename_i h4
 split at h
 · cases h
 rename_i h5
 refine ⟨by omega,fun hk=>?_,by omega,fun hk=>?_,by omega⟩
 · simp only [hk,true_and,not_or,Decidable.not_not] at h2
   exact ⟨hD D h2.1,h2.2⟩
 · simpa [hk] using h4
theorem YQ {p:ByteArray} {k m:Int} {t:Nat} {D:ByteArray} (h:yZ p k m t D=0) (hp:p.size≤300) (ht:t<4294967296) (M:Int) (X:ByteArray)
 (hm:M=0∨M=8) (hf:k=1→(M=0∧X=D)∨(M=8∧X.size<D.size)) (hd:k≠1→M=0∧X=⟨#[]⟩) :
 yu ⟨p,M,if k=1 then xw D else 0,X.size,D.size,k,m,if k=1 then t else 2162688,0⟩=0:=by
 unfold yZ at h
 split at h
 · rename_i h1; exact absurd h h1
 rename_i h1
 split at h
 · cases h
 rename_i h2
 split at h
 · cases h
 rename_i h3
 obtain ⟨q1,q2,q3,q4,q5⟩:=ki (by simpa using h1)
 have hn:js ⟨p,M,if k=1 then xw D else 0,X.size,D.size,k,m,if k=1 then t else 2162688,0⟩=true:=by
  have:js ⟨p,0,0,0,0,k,m,t,0⟩=true:=by simpa using h3
  exact this
 have hl:kH ⟨p,M,if k=1 then xw D else 0,X.size,D.size,k,m,if k=1 then t else 2162688,0⟩=true:=by
  have hx:X.size≤65000:=by
   by_cases hk:k=1
   · rcases hf hk with ⟨_,rfl⟩ | ⟨_,h⟩<;>omega
   · rw [(hd hk).2]; decide
  unfold kH
  dsimp only
  rw [if_neg (by unfold ql; simp; omega)]
  by_cases hk:k=2
  · subst hk
    obtain ⟨rfl,rfl⟩:=q2 rfl
    obtain ⟨rfl,rfl⟩:=hd (by decide)
    rfl
  · rw [if_neg hk]
    have hk1:k=1:=by omega
    rcases hf hk1 with ⟨_,rfl⟩ | ⟨h8,_⟩
    · simp
    · simp [h8]
 have hr:qE k (if k=1 then t else 2162688)=true:=by
  unfold qE
  by_cases hk:k=2
  · subst hk; rfl
  · rw [if_neg hk,if_pos (by omega)]; exact q4 (by omega)
 unfold yu
 rw [hn,hl,if_neg (by simp),if_neg (by simp),if_neg (by dsimp only; omega),if_neg (by dsimp only; rw [hr]; simp)]
theorem zaO (D:ByteArray):xw D<4294967296:=by unfold xw; omega
theorem LaidE.mk' {p:ByteArray} {k m:Int} {t:Nat} {D:ByteArray} (h:yZ p k m t D=0) (hp:p.size≤300) (ht:t<4294967296) (M:Int) (X:ByteArray)
 (hm:M=0∨M=8) (hf:k=1→(M=0∧X=D)∨(M=8∧X.size<D.size∧BackP D X)) (hd:k≠1→M=0∧X=⟨#[]⟩) :
 LaidE p k m t D ⟨p,M,if k=1 then xw D else 0,X.size,D.size,k,m,if k=1 then t else 2162688,0⟩ X where
 fits:=⟨by dsimp only; omega,by dsimp only; split; exact zaO D; decide,by dsimp only; split<;>omega⟩
 right:=YQ h hp ht M X hm (fun hk=>(hf hk).imp id (fun h=>⟨h.1,h.2.1⟩)) hd
 hp:=rfl
 hk:=rfl
 hmd:=rfl
 hpos:=rfl
 hwh:=rfl
 hl:=rfl
 file:=fun hk=>⟨if_pos hk,if_pos hk,hf hk⟩
 dir:=fun hk=>by
  unfold yZ at h
  split at h
  · rename_i h1; exact absurd h h1
  rename_i h1
  split at h
  · cases h
  obtain ⟨q1,q2,q3,q4,q5⟩:=ki (by simpa using h1)
  have hk2:k=2:=by omega
  exact ⟨hk2,(q2 hk2).2,(q2 hk2).1,(hd hk).2,if_neg hk,if_neg hk,(hd hk).1⟩
theorem Vf {p:ByteArray} {k m:Int} {t:Nat} {D:ByteArray} {r:RecD} {X:ByteArray} (h:LaidE p k m t D r X) (A B:ByteArray) (hA:A.size<2147483648) (hD:D.size≤65000) :
 qU (A++(zf (zB r)++X)++B) (r.to A.size)=(D,(((zf (zB r)++X).size:Nat):Int),0):=by
 have hr:=RecD.to_right h.right hA
 have hsz:(zf (zB r)++X).size=30+(zt r.k r.p).length+X.size:=by rw [ByteArray.size_append,zu,yE]
 have hb:zc ((A++(zf (zB r)++X)++B).extract A.size (A++(zf (zB r)++X)++B).size)=zB (r.to A.size)++(zc X++zc B):=by
  rw [zF,zI,zI,zI,zv _ (vI r)]
  rw [show (zc A++(zB r++zc X)++zc B)=zc A++(zB r++(zc X++zc B)) by simp only [List.append_assoc]]
  rw [List.drop_left' (by rw [zd]),List.take_of_length_le]
  · rfl
  · simp only [List.length_append,zd,ByteArray.size_append,zu]; omega
 have hx:=Yp (r.to A.size) _ (zc X++zc B) A.size ⟨h.fits.p,h.fits.sum,h.fits.t⟩ hr hb
 have hrd:zy (A++(zf (zB r)++X)++B) (A.size:Nat)=(⟨r.p,r.m,r.sum,r.l,r.wh,r.k,0,r.t,A.size⟩,30+(zt r.k r.p).length,false,0):=by
  unfold zy
  rw [if_neg (by simp only [ByteArray.size_append]; omega)]
  exact hx
 have hcut:(A++(zf (zB r)++X)++B).extract (A.size+(30+(zt r.k r.p).length)) (A.size+(30+(zt r.k r.p).length)+X.size)=X:=by
  apply ByteArray.ext
  apply Array.ext'
  have e:zc ((A++(zf (zB r)++X)++B).extract (A.size+(30+(zt r.k r.p).length)) (A.size+(30+(zt r.k r.p).length)+X.size))=zc X:=by
   rw [zF,zI,zI,zI,zv _ (vI r)]
   rw [show (zc A++(zB r++zc X)++zc B)=(zc A++zB r)++(zc X++zc B) by simp only [List.append_assoc]]
   rw [List.drop_left' (by rw [List.length_append,zd,yE]),List.take_left' (by rw [zd]; omega)]
  have e2:=congrArg zf e
  rw [zx,zx] at e2
  rw [e2]
 have hw:qF X (r.to A.size)=(D,0):=by
  have hwh:(r.to A.size).wh=(D.size:Nat):=h.hwh
  have hfin : ∀ s:Nat,(r.to A.size).sum=s→((r.to A.size).k=1→xw D=s)→zbI D (r.to A.size)=(D,0):=fun s h1 h2=>by
   unfold zbI
   rw [if_neg (by rw [hwh]; omega),if_neg (by rw [hwh]; simp),if_neg (fun hc=>hc.2 (by rw [h1]; exact h2 hc.1))]
  unfold qF
  by_cases hk:k=1
  · obtain ⟨f1,f2,f3 | f3⟩:=h.file hk
    · rw [if_neg (by show ¬ r.m=8; rw [f3.1]; decide),f3.2]
      exact hfin _ f2 (fun _=>rfl)
    · have hc:D.size≤XG (D.size:Nat):=by unfold XG; omega
      rw [if_pos (show (r.to A.size).m=8 from f3.1),hwh]
      have hv:=f3.2.2.val (D.size:Nat) hc
      rw [zc1] at hv
      injection hv with hv
      simp only [Array.mk.injEq,List.cons.injEq,Value.string.injEq,Value.int.injEq,true_and,and_true] at hv
      obtain ⟨e1,e2,e3⟩:=hv
      rw [if_neg (by omega),if_neg (by omega),e1]
      exact hfin _ f2 (fun _=>rfl)
  · obtain ⟨d1,d2,d3,d4,d5,d6,d7⟩:=h.dir hk
    rw [if_neg (by show ¬ r.m=8; rw [d7]; decide),d4,← d3]
    exact hfin _ rfl (fun hk1=>absurd (h.hk.symm.trans hk1) hk)
 have hl:(r.to A.size).l=(X.size:Nat):=h.hl
 unfold qU
 rw [if_neg (by rw [hr]; simp)]
 rw [show (r.to A.size).pos=(A.size:Nat) from rfl,hrd]
 dsimp only
 rw [if_neg (by simp),if_neg (by simp [vQ,RecD.to])]
 have ht:qn (A++(zf (zB r)++X)++B) ⟨r.p,r.m,r.sum,r.l,r.wh,r.k,0,r.t,A.size⟩ (r.to A.size) ((A.size:Nat)+((30+(zt r.k r.p).length:Nat):Int)) false=(0,0):=by
  unfold qn
  rw [if_neg (by simp),if_neg (by simp [RecD.to])]
 rw [ht]
 dsimp only
 rw [if_neg (by simp),hl,if_neg (by simp only [ByteArray.size_append,zu,yE]; omega)]
 rw [show (((A.size:Nat):Int)+((30+(zt r.k r.p).length:Nat):Int)).toNat=A.size+(30+(zt r.k r.p).length) by omega,show (((A.size:Nat):Int)+((30+(zt r.k r.p).length:Nat):Int)+(X.size:Nat)).toNat=A.size+(30+(zt r.k r.p).length)+X.size by omega,hcut,hw]
 dsimp only
 rw [if_neg (by simp),hsz]
 simp
end Go.Proofs.YtfkcdnaghndgfaaGreatDoor
namespace Go.Proofs.YtfkcdnaghndgfaaGreatDoor
open Go.RowKit
theorem zd1 (p:ByteArray):p++({ data := #[47] }:ByteArray)=zf (zc p++[47]):=by
 rw [← Qm,zx]; rfl
theorem Xj (r:RecD) (w:World) (h:r.Fits):Calls Tryz.prog 45 #[r.v] w fun e w'=>e = .returned (.string (zf (zt r.k r.p)))∧Upd [] w w':=by
 have hp:=h.p
 obtain ⟨p,m,sum,l,wh,k,md,t,pos⟩:=r
 dsimp only at hp
 unfold RecD.v
 dsimp only
 have HA:=Lib.hid (zd1 p)
 have HB:=Lib.hid (zx p)
 by_cases hk:k=2
 · subst hk
   have HN:Hid (zt 2 p=zc p++[47]):=Lib.hid rfl
   go_enter Tryz.func45,Tryz.ntmps45
   go_wp2
   go_ret
   exact ⟨by rw [HN.out,← HA.out]; rfl,(Upd.refl _ _).alloc _⟩
 · have HN:Hid (zt k p=zc p):=Lib.hid (if_neg hk)
   have t1:(k==2)=false:=by rw [beq_eq_false_iff_ne]; exact hk
   go_enter Tryz.func45,Tryz.ntmps45
   go_wp2
   go_ret
   exact ⟨by rw [HN.out,HB.out]; rfl,(Upd.refl _ _).alloc _⟩
theorem zdL (n:Int) (w:World):Calls Tryz.prog 86 #[.int .i64 n] w fun e w'=>e = .returned (.bool (ql n))∧w=w':=by
 by_cases h:0≤n
 · have t1:decide (0≤n)=true:=decide_eq_true h
   have HS:Hid (ql n=decide (n<2147483648)):=Lib.hid (by unfold ql; rw [t1]; rfl)
   go_enter Tryz.func86,Tryz.ntmps86
   go_wp2
   go_returns
   exact ⟨by rw [HS.out]; rfl,rfl⟩
 · have t1:decide (0≤n)=false:=decide_eq_false h
   have HS:Hid (ql n=false):=Lib.hid (by unfold ql; rw [t1]; rfl)
   go_enter Tryz.func86,Tryz.ntmps86
   go_wp2
   go_returns
   exact ⟨by rw [HS.out]; rfl,rfl⟩
set_option maxRecDepth 100000 in
set_option maxHeartbeats 4000000 in
theorem zdz (r:RecD) (w:World) (h:r.Fits):Calls Tryz.prog 46 #[r.v] w fun e w'=>e = .returned (.bool (kH r))∧Upd [] w w':=by
 have hp:=h.p
 have hs:=h.sum
 have HL:=Lib.hid (show kH r=if (r.m≠0∧r.m≠8)∨ql r.l=false∨ql r.wh=false∨ql r.pos=false then false
  else if r.k=2 then decide (r.sum=0)&&decide (r.l=0)&&decide (r.wh=0)&&decide (r.m=0) else decide (r.m=8)||decide (r.l=r.wh) from rfl)
 obtain ⟨p,m,sum,l,wh,k,md,t,pos⟩:=r
 dsimp only at hp hs HL
 unfold RecD.v
 dsimp only
 rw [HL.out]
 clear HL
 go_enter Tryz.func46,Tryz.ntmps46
 go_wp2_with (go_at_call 86; refine (zdL _ _).mono ?_; rintro e w2 ⟨rfl,rfl⟩)
 all_goals go_returns
 all_goals (refine ⟨congrArg (fun z=>Ending.returned (.bool z)) ?_,(Upd.refl _ _).alloc _⟩)
 all_goals (simp_all<;>rfl)
set_option maxRecDepth 100000 in
set_option maxHeartbeats 4000000 in
theorem zay (r:RecD) (w:World) (h:r.Fits):Calls Tryz.prog 47 #[r.v] w fun e w'=>e = .returned (.bool (qE r.k r.t))∧Upd [] w w':=by
 have ht:=h.t
 obtain ⟨p,m,sum,l,wh,k,md,t,pos⟩:=r
 dsimp only at ht
 unfold RecD.v
 dsimp only
 have HT:=Lib.hid (fun w'=>Ql t w' ht)
 by_cases hk:k=2
 · subst hk
   have HN:Hid (qE 2 t=decide (t=2162688)):=Lib.hid rfl
   have t1:((t:Int)==2162688)=decide (t=2162688):=by rw [Bool.eq_iff_iff,beq_iff_eq,decide_eq_true_eq]; omega
   go_enter Tryz.func47,Tryz.ntmps47
   go_wp2
   go_ret
   exact ⟨by rw [HN.out]; rfl,(Upd.refl _ _).alloc _⟩
 · have HN:Hid (qE k t=Vi t):=Lib.hid (if_neg hk)
   have t1:(k==2)=false:=by rw [beq_eq_false_iff_ne]; exact hk
   go_enter Tryz.func47,Tryz.ntmps47
   go_wp2_with fail
   refine (HT.out _).mono ?_
   rintro e w1 ⟨rfl,hU⟩
   go_wp2
   go_ret
   exact ⟨by rw [HN.out]; rfl,((Upd.refl _ _).alloc _).then hU⟩
theorem zb4 (r:RecD) (w:World) (h:r.Fits):Calls Tryz.prog 25 #[r.v] w fun e w'=>e = .returned (.int .i64 (30+(zt r.k r.p).length:Nat))∧Upd [] w w':=by
 have hl:=xW r.k r.p
 have hp:=h.p
 have HNM:=Lib.hid (fun w=>Xj r w h)
 obtain ⟨p,m,sum,l,wh,k,md,t,pos⟩:=r
 dsimp only at hp hl HNM
 unfold RecD.v at *
 dsimp only at HNM ⊢
 have hsz:=zu (zt k p)
 have HSZ:=Lib.hid hsz
 have hb:(zf (zt k p)).size≤1001:=by omega
 generalize zf (zt k p)=S at *
 generalize (zt k p).length=n at *
 clear hsz
 go_enter Tryz.func25,Tryz.ntmps25
 go_wp2_with fail
 refine (HNM.out _).mono ?_
 rintro e w1 ⟨rfl,hU⟩
 go_wp2
 go_ret
 exact ⟨by rw [← HSZ.out]; show Ending.returned (.int .i64 (30+(S.size:Int)))=_; simp,((Upd.refl _ _).alloc _).then hU⟩
end Go.Proofs.YtfkcdnaghndgfaaGreatDoor
namespace Go.Proofs.YtfkcdnaghndgfaaGreatDoor
open Go.RowKit
theorem ZM (a:List Nat) (p:ByteArray) (ha : ∀ x∈a,x<256):((zf a).toList=p.toList)=(a=zc p):=by
 refine propext ⟨fun h=>?_,fun h=>by rw [h,zx]⟩
 rw [ByteArray.toList_eq,ByteArray.toList_eq] at h
 have:zf a=p:=ByteArray.ext (Array.ext' h)
 rw [← this,zv a ha]
set_option maxRecDepth 100000 in
set_option maxHeartbeats 4000000 in
theorem JX (r:RecD) (w:World) (h:r.Fits):Calls Tryz.prog 21 #[r.v] w fun e w'=>e = .returned (.int .i64 (yu r:Nat))∧Upd [] w w':=by
 have hp:=h.p
 have hsz:(zf (zt r.k r.p)).size≤1000000:=by have:=xW r.k r.p; rw [zu]; omega
 have HN:=Lib.hid (fun w=>Xj r w h)
 have HP:=Lib.hid (fun w=>KR (zf (zt r.k r.p)) w hsz)
 rw [zv _ (vR r.k r.p)] at HP
 have HL:=Lib.hid (fun w=>zdz r w h)
 have HT:=Lib.hid (fun w=>zay r w h)
 have HE:Hid (yu r=if js r=false then 5 else if kH r=false then 2 else if r.md<0∨511<r.md then 12 else if qE r.k r.t=false then 13 else 0):=Lib.hid rfl
 have HB:Hid (js r=((yl (zt r.k r.p)).2.2&&decide ((yl (zt r.k r.p)).1=zc r.p)&&decide (((yl (zt r.k r.p)).2.1:Int)=r.k))):=Lib.hid rfl
 have HA:Hid (∀ x∈(yl (zt r.k r.p)).1,x<256):=Lib.hid (zgp (vR r.k r.p))
 generalize yu r=E at *
 generalize qE r.k r.t=tb at *
 generalize kH r=lb at *
 generalize js r=nb at *
 generalize yl (zt r.k r.p)=pp at *
 generalize zf (zt r.k r.p)=S at *
 clear hsz
 obtain ⟨a,kk,okb⟩:=pp
 unfold zdg at HP
 dsimp only at HP HB HA
 obtain ⟨p,m,sum,l,wh,k,md,t,pos⟩:=r
 unfold RecD.v at *
 dsimp only at *
 have HQ:=Lib.hid (ZM a p HA.out)
 clear HA
 go_enter Tryz.func21,Tryz.ntmps21
 go_wp2_with fail
 refine (HN.out _).mono ?_
 rintro e w1 ⟨rfl,hU1⟩
 go_wp2_with fail
 refine (HP.out _).mono ?_
 rintro e w2 ⟨rfl,hU2⟩
 have hU:Upd [] w w2:=(((Upd.refl [] w).alloc _).then hU1).then hU2
 have hB:=((Blk.new w [.string p,.int .i64 m,.int .u32 (sum:Nat),.int .i64 l,.int .i64 wh,.int .i64 k,.int .i64 md,.int .u32 (t:Nat),.int .i64 pos] 26).upd hU1 (by simp)).upd hU2 (by simp)
 have hlt:=hB.lt
 generalize w.heap.size=b0 at *
 have cA:=hB.all
 have HBB:=Lib.hid hB
 have HU:=Lib.hid hU
 clear hB hU hU1 hU2
 go_wp2_with fail
 any_goals (go_ret; refine ⟨?_,HU.out⟩; have hnb:nb=false:=(by
  rw [HB.out]
  first
   | (have h1 := ‹¬ (okb=true)›; simp [h1]; done)
   | (have h2 := ‹¬ ((zf a).toList=p.toList)›; rw [HQ.out] at h2; simp [h2]; done)
   | (have h3 := ‹((kk:Int) != k)=true›; have h4 : ¬ ((kk:Int)=k):=(by simpa using h3); simp [h4]; done)); rw [HE.out,hnb]; rfl)
 have hnb:nb=true:=by
  have h2 := ‹(zf a).toList=p.toList›
  have h1 := ‹okb=true›
  have h3 := ‹((kk:Int) != k)=false›
  rw [HQ.out] at h2
  have h4:(kk:Int)=k:=by simpa using h3
  rw [HB.out]
  simp [h1,h2,h4]
 cases lb with
 | false =>
   refine (HL.out _).mono ?_
   rintro e w3 ⟨rfl,hU3⟩
   have HF:=Lib.hid (HU.out.then hU3)
   clear hU3
   go_wp2
   go_ret
   exact ⟨by rw [HE.out,hnb]; rfl,HF.out⟩
 | true =>
   refine (HL.out _).mono ?_
   rintro e w3 ⟨rfl,hU3⟩
   have hB3:=HBB.out.upd hU3 (by simp)
   have dA:=hB3.all
   have HF:=Lib.hid (HU.out.then hU3)
   clear hU3 hB3 cA
   by_cases hm:md<0∨511<md
   · have HX:Hid (E=12):=Lib.hid (by rw [HE.out,hnb,if_neg (by simp),if_neg (by simp),if_pos hm])
     clear HE
     rcases hm with hm | hm
     · go_wp2_with fail
       go_ret
       exact ⟨by rw [HX.out]; rfl,HF.out⟩
     · have hm0 : ¬ md<0:=by omega
       go_wp2_with fail
       go_ret
       exact ⟨by rw [HX.out]; rfl,HF.out⟩
   · have HX:Hid (E=if tb=false then 13 else 0):=Lib.hid (by rw [HE.out,hnb,if_neg (by simp),if_neg (by simp),if_neg hm])
     have hm0 : ¬ md<0:=by omega
     have hm1 : ¬ 511<md:=by omega
     clear HE hm
     go_wp2_with fail
     refine (HT.out _).mono ?_
     rintro e w4 ⟨rfl,hU4⟩
     have HG:=Lib.hid (HF.out.then hU4)
     clear hU4 dA
     cases tb with
     | false =>
       go_wp2
       go_ret
       exact ⟨by rw [HX.out]; rfl,HG.out⟩
     | true =>
       go_wp2
       go_ret
       exact ⟨by rw [HX.out]; rfl,HG.out⟩
end Go.Proofs.YtfkcdnaghndgfaaGreatDoor
