/- Package sum: Step, Feed, Of: walks. -/
import Derived.Test.YtfkcdnaghndgfaaGreatDoorQAS
import Derived.Test.YtfkcdnaghndgfaaGreatDoorQAR
import Derived.Deep.RegionHeld3
import Derived.Deep.OwnRows
import Derived.WalkKit
import Derived.Handy
import Derived.Outline
import Derived.BigQuiet
import Derived.Deep.CutBlock
import Derived.Deep.DeepCutAuto
import Derived.Deep.DeepFit
import Derived.Deep.Light
import Derived.Deep.LoopGhost
import Derived.Deep.QuietTactic
import Derived.Deep.RegionLaw
import Derived.IntWalk
import Derived.Laws.BitsAllLaws
import Derived.Lib.MinMax
import Derived.StillTailTactics
import Derived.WalkSpells
import Derived.Lib.Hide
import Derived.Test.YtfkcdnaghndgfaaGreatDoorQAA
import Derived.Test.YtfkcdnaghndgfaaGreatDoorQAO
set_option linter.unusedVariables false
set_option linter.unusedSimpArgs false
set_option linter.unusedSectionVars false
namespace Go.Proofs.YtfkcdnaghndgfaaGreatDoor
open Go.RowKit
set_option maxRecDepth 100000 in
set_option maxHeartbeats 1600000 in
theorem zfE (b0 s b:Nat) (w:World) (hB:Blk w b0 (jW ZL) 64) (hs:s<4294967296) (hb:b<256) :
 Calls Tryz.prog 74 #[.pointer (some ⟨b0,0,none⟩),.int .u32 (s:Nat),.int .u8 (b:Nat)] w fun e w'=>e = .returned (.int .u32 (qb s b:Nat))∧w=w':=by
 have hct:=zeI s b
 obtain ⟨r,hr⟩ : ∃ r,r=s%256:=⟨_,rfl⟩
 have z1:(s:Int)%256=(r:Int):=by omega
 have hr2:r<256:=by omega
 have hx:=zis r b hr2 hb
 have hq:r ^^^ b<256:=Nat.xor_lt_two_pow (n:=8) hr2 hb
 rw [← hr] at hct
 generalize r ^^^ b=q at *
 have c1:=hB.cell q (zfS (WA hq))
 have hy:jZ 8 q<4294967296:=VY 8 (by omega)
 have hxx:=ZM (jZ 8 q) (s/256) hy (by omega)
 rw [hct] at hxx
 have q0:(0:Int)≤(q:Int):=by omega
 have q1:(q:Int)<256:=by omega
 have e2:((s/256:Nat):Int)=(s:Int)/256:=by omega
 rw [e2] at hxx
 have HR:=Lib.hid hxx
 clear hct hxx e2 hr hB
 generalize jZ 8 q=y at *
 generalize qb s b=z at *
 go_enter Tryz.func74,Tryz.ntmps74
 go_wp2
 go_returns
 exact ⟨by exact congrArg (fun z=>Ending.returned (.int .u32 z)) HR.out,rfl⟩
set_option maxRecDepth 100000 in
set_option maxHeartbeats 1600000 in
theorem zg6 (b0 sb s:Nat) (T:ByteArray) (w:World) (hB:Blk w b0 (jW ZL) 64) (hs:s<4294967296) (hT:T.size≤9223372036854775807) (hc0:w.cell? ⟨sb,0,none⟩=some (.string T)) :
 Calls Tryz.prog 39 #[.pointer (some ⟨b0,0,none⟩),.int .u32 (s:Nat),.slice (some ⟨sb,0,none⟩) 1 1] w fun e w'=>e = .returned (.int .u32 (yQ s (za T):Nat))∧w=w':=by
 have hlen:=zc T
 go_enter Tryz.func39,Tryz.ntmps39
 go_wp2
 go_loopg [1,12] 1 (fun g s1 s12 wr => ∃ i x,i≤1∧g=1-i∧s12 = .int .i64 (i:Nat)∧s1 = .int .u32 (x:Nat)∧Hid ((i=0→x=s)∧(i=1→x=yQ s (za T)))∧w=wr)
 case atStart=>exact ⟨0,s,by omega,rfl,rfl,rfl,Lib.hid ⟨fun _=>rfl,fun h=>by omega⟩,rfl⟩
 case round =>
  obtain ⟨i,x,hi,rfl,rfl,rfl,H,rfl⟩:=hrel
  rcases (by omega:i=0∨i=1) with rfl | rfl
  · have hx0:=H.out.1 rfl
    subst hx0
    clear H
    go_wp2
    go_loopg [1,18] T.size (fun g s1 s18 wr => ∃ i y,i≤T.size∧g=T.size-i∧s18 = .int .i64 (i:Nat)∧s1 = .int .u32 (y:Nat)∧y<4294967296∧Hid (y=yQ x ((za T).take i))∧w=wr)
    case atStart=>exact ⟨0,x,by omega,rfl,rfl,rfl,hs,Lib.hid rfl,rfl⟩
    case round =>
     obtain ⟨i,y,hi,rfl,rfl,rfl,hy,H,rfl⟩:=hrel
     by_cases hc:i<T.size
     · have hcz:(i:Int)<(T.size:Int):=by omega
       have hil:i<(za T).length:=by omega
       have hb:(za T)[i]=T[i].toNat:=yC T i hc hil
       have hst:yQ x ((za T).take (i+1))=qb y T[i].toNat:=by
        rw [List.take_succ_eq_append_getElem hil,Qo,← H.out,hb]
       have hbl:T[i].toNat<256:=T[i].toNat_lt
       have HS:=Lib.hid hst
       have HB:=Lib.hid (zfE b0 y T[i].toNat w hB hy hbl)
       have hy2:=Lib.hid (Js hy hbl)
       clear hst hb H
       go_wp2_with fail
       refine HB.out.mono ?_
       rintro e w1 ⟨rfl,rfl⟩
       go_wp2
       go_roundg (T.size-(i+1))
       · exact ⟨i+1,_,by omega,rfl,by first | rfl | go_num,rfl,hy2.out,Lib.hid HS.out.symm,rfl⟩
       · omega
     · have hcz : ¬ (i:Int)<(T.size:Int):=by omega
       have h8:i=T.size:=by omega
       have HE:=Lib.hid (show y=yQ x (za T) from by rw [H.out,h8,← hlen,List.take_length])
       go_wp2
       go_roundg 0
       · exact ⟨1,y,by omega,rfl,by first | rfl | go_num,rfl,Lib.hid ⟨fun h=>by omega,fun _=>HE.out⟩,rfl⟩
       · omega
  · have H1:=Lib.hid (H.out.2 rfl)
    go_wp2
    go_returns
    exact ⟨by rw [← H1.out]; rfl,rfl⟩
theorem zdO (w:World):Calls Tryz.prog 40 #[] w fun e w'=>e = .returned (.int .u32 (4294967295:Nat))∧w=w':=by
 go_enter Tryz.func40,Tryz.ntmps40
 go_wp2
 go_returns
 exact ⟨rfl,rfl⟩
theorem zhd (n:Nat) (h:n<4294967296):4294967295 ^^^ n=4294967295-n:=by
 have e1:4294967295-n=2^32-(n+1):=by omega
 have e2:4294967295=2^32-1:=by omega
 rw [e1]
 apply Nat.eq_of_testBit_eq
 intro i
 rw [Nat.testBit_xor,Nat.testBit_two_pow_sub_succ h,e2,Nat.testBit_two_pow_sub_one]
 by_cases hi:i<32
 · simp [hi]
 · have:n.testBit i=false:=Nat.testBit_lt_two_pow (Nat.lt_of_lt_of_le h (show 2^32≤2^i from Nat.pow_le_pow_right (by omega) (by omega)))
   simp [hi,this]
theorem zh7 (x:Nat) (w:World) (hx:x<4294967296):Calls Tryz.prog 38 #[.int .u32 (x:Nat)] w fun e w'=>e = .returned (.int .u32 (4294967295-x:Nat))∧w=w':=by
 go_enter Tryz.func38,Tryz.ntmps38
 go_wp2
 go_returns
 refine ⟨?_,rfl⟩
 have hx2:=ZM 4294967295 x (by omega) hx
 rw [zhd x hx] at hx2
 exact congrArg (fun z=>Ending.returned (.int .u32 z)) hx2
set_option maxRecDepth 100000 in
set_option maxHeartbeats 1600000 in
theorem QG (T:ByteArray) (w:World) (hT:T.size≤9223372036854775807):Calls Tryz.prog 19 #[.string T] w fun e w'=>e = .returned (.int .u32 (yA T:Nat))∧Upd [] w w':=by
 have HO:=Lib.hid (show yA T=4294967295-yQ 4294967295 (za T) from rfl)
 have hl:=JB (za T) (s:=4294967295) (by omega) (zV T)
 have HF:=Lib.hid (fun b0 sb w' hB hc=>zg6 b0 sb 4294967295 T w' hB (by omega) hT hc)
 generalize yQ 4294967295 (za T)=x at *
 have HLL:=Lib.hid (Zt ZL)
 have HTL:=Lib.hid Xv
 go_enter Tryz.func19,Tryz.ntmps19
 go_wp2_with fail
 refine (zfb w).mono ?_
 rintro e w1 ⟨rfl,hU1⟩
 go_wp2_with (first | (refine zs rfl 64 _ _ rfl w1.heap.size rfl (jW ZL) rfl 64 (jW (List.replicate 256 0)) (by rw [Kt]; exact Blk.new w1 _ _) (by rw [ZN]; rfl) (by rw [HLL.out,HTL.out]; rfl) (zba _) ?_; intro w2 hB2 hU2))
 have hU02:Upd [] w w2:=(hU1.then (((Upd.refl [] w1).alloc (.cells (jW (List.replicate 256 0)).toArray 64)))).trans (by rw [Kt] at hU2; exact hU2) (fun k hk => .inr (by have:=hU1.size; simp at hk; omega))
 refine (zdO w2).mono ?_
 rintro e w3 ⟨rfl,rfl⟩
 go_wp2_with fail
 have hS:=Blk.new w2 [.string T] 9
 have hB4:=hB2.alloc (.cells #[.string T] 9)
 refine (HF.out w1.heap.size w2.heap.size _ hB4 (hS.cell 0 rfl)).mono ?_
 rintro e w4 ⟨rfl,rfl⟩
 go_wp2_with fail
 refine (zh7 x _ hl).mono ?_
 rintro e w5 ⟨rfl,rfl⟩
 go_wp2
 go_returns
 exact ⟨by rw [HO.out]; rfl,hU02.alloc _⟩
end Go.Proofs.YtfkcdnaghndgfaaGreatDoor
namespace Go.Proofs.YtfkcdnaghndgfaaGreatDoor
open Go.RowKit
def Xr (k m:Int) (t:Nat) (D:ByteArray):Value := .agg #[.int .i64 k,.int .i64 m,.int .u32 (t:Nat),.string D]
def qV (k m:Int) (t:Nat) (D:ByteArray):Nat :=
 if k<0∨2<k then 8 else if k=0∧(m≠0∨t≠0∨D.toList≠[]) then 1 else if k=2∧(D.toList≠[]∨t≠0) then 1 else if m<0∨511<m then 12 else if k=1∧Zr t=false then 13 else if 65000<D.size then 4 else 0
theorem zgK (m:Int) (w:World):Calls Tryz.prog 35 #[.int .i64 m] w fun e w'=>e = .returned (.bool (decide (0≤m)&&decide (m≤511)))∧w=w':=by
 by_cases h:0≤m
 · have t1:decide (0≤m)=true:=decide_eq_true h
   go_enter Tryz.func35,Tryz.ntmps35
   go_wp2
   go_returns
   exact ⟨by rw [t1]; rfl,rfl⟩
 · have t1:decide (0≤m)=false:=decide_eq_false h
   go_enter Tryz.func35,Tryz.ntmps35
   go_wp2
   go_returns
   exact ⟨rfl,rfl⟩
set_option maxRecDepth 100000 in
set_option maxHeartbeats 3200000 in
theorem YH (k m:Int) (t:Nat) (D:ByteArray) (w:World) (ht:t<4294967296) (hD:D.size≤9223372036854775807):Calls Tryz.prog 18 #[Xr k m t D] w fun e w'=>e = .returned (.int .i64 (qV k m t D:Nat))∧Upd [] w w':=by
 have HT:=Lib.hid (fun w'=>Qg t w' ht)
 have HM:=Lib.hid (fun m w'=>zgK m w')
 unfold Xr
 go_enter Tryz.func18,Tryz.ntmps18
 go_wp2_with (first | (go_at_call 36; refine (HT.out _).mono ?_; rintro e w2 ⟨rfl,hU2⟩; have c3:=((Blk.new w _ _).upd hU2 (by simp)).cell 3 rfl) | (go_at_call 35; refine (HM.out _ _).mono ?_; rintro e w2 ⟨rfl,rfl⟩))
 all_goals go_returns
 all_goals (refine ⟨congrArg (fun z=>Ending.returned (.int .i64 z)) ?_,by first | exact (Upd.refl _ _).alloc _ | exact ((Upd.refl _ _).alloc _).then (by assumption)⟩)
 all_goals (clear HT HM; unfold qV; (repeat' split)<;>first | rfl | (exfalso; omega) | (exfalso; simp_all; done) | (exfalso; simp_all; omega))
end Go.Proofs.YtfkcdnaghndgfaaGreatDoor
namespace Go.Proofs.YtfkcdnaghndgfaaGreatDoor
open Go.RowKit
def xU (p:ByteArray) (k m:Int) (t:Nat) (D:ByteArray):Nat :=
 if qV k m t D≠0 then qV k m t D else if k=0 then 8 else if jL ⟨p,0,0,0,0,k,m,t,0⟩=false then 5 else 0
structure LaidE (p:ByteArray) (k m:Int) (t:Nat) (D:ByteArray) (r:RecD) (X:ByteArray):Prop where
 fits:r.Fits
 right:yF r=0
 hp:r.p=p
 hk:r.k=k
 hmd:r.md=m
 hpos:r.pos=0
 hwh:r.wh=D.size
 hl:r.l=X.size
 file:k=1→r.t=t∧r.sum=yA D∧((r.m=0∧X=D)∨(r.m=8∧X.size<D.size∧BackP D X))
 dir:k≠1→k=2∧t=0∧D=⟨#[]⟩∧X=⟨#[]⟩∧r.t=2162688∧r.sum=0∧r.m=0
def RecD.to (r:RecD) (a:Int):RecD:=⟨r.p,r.m,r.sum,r.l,r.wh,r.k,r.md,r.t,a⟩
theorem ku {k m:Int} {t:Nat} {D:ByteArray} (h:qV k m t D=0):(k=0∨k=1∨k=2)∧(k=2→D=⟨#[]⟩∧t=0)∧(0≤m∧m≤511)∧(k=1→Zr t=true)∧D.size≤65000:=by
 have hD : ∀ D:ByteArray,D.toList=[]→D=⟨#[]⟩:=fun D h=>by
  rw [ByteArray.toList_eq] at h
  exact ByteArray.ext (Array.ext' h)
 unfold qV at h
 split at h
 · cases h
 rename_i h1
 split at h
 · cases h
 split at h
 · cases h
 rename_i h2
 split at h
 · cases h
 rename_i h3
 split at h
 · cases h
 rename_i h4
 split at h
 · cases h
 rename_i h5
 refine ⟨by omega,fun hk=>?_,by omega,fun hk=>?_,by omega⟩
 · simp only [hk,true_and,not_or,Decidable.not_not] at h2
   exact ⟨hD D h2.1,h2.2⟩
 · simpa [hk] using h4
theorem YX {p:ByteArray} {k m:Int} {t:Nat} {D:ByteArray} (h:xU p k m t D=0) (hp:p.size≤300) (ht:t<4294967296) (M:Int) (X:ByteArray)
 (hm:M=0∨M=8) (hf:k=1→(M=0∧X=D)∨(M=8∧X.size<D.size)) (hd:k≠1→M=0∧X=⟨#[]⟩) :
 yF ⟨p,M,if k=1 then yA D else 0,X.size,D.size,k,m,if k=1 then t else 2162688,0⟩=0:=by
 unfold xU at h
 split at h
 · rename_i h1; exact absurd h h1
 rename_i h1
 split at h
 · cases h
 rename_i h2
 split at h
 · cases h
 rename_i h3
 obtain ⟨q1,q2,q3,q4,q5⟩:=ku (by simpa using h1)
 have hn:jL ⟨p,M,if k=1 then yA D else 0,X.size,D.size,k,m,if k=1 then t else 2162688,0⟩=true:=by
  have:jL ⟨p,0,0,0,0,k,m,t,0⟩=true:=by simpa using h3
  exact this
 have hl:xK ⟨p,M,if k=1 then yA D else 0,X.size,D.size,k,m,if k=1 then t else 2162688,0⟩=true:=by
  have hx:X.size≤65000:=by
   by_cases hk:k=1
   · rcases hf hk with ⟨_,rfl⟩ | ⟨_,h⟩<;>omega
   · rw [(hd hk).2]; decide
  unfold xK
  dsimp only
  rw [if_neg (by unfold ya; simp; omega)]
  by_cases hk:k=2
  · subst hk
    obtain ⟨rfl,rfl⟩:=q2 rfl
    obtain ⟨rfl,rfl⟩:=hd (by decide)
    rfl
  · rw [if_neg hk]
    have hk1:k=1:=by omega
    rcases hf hk1 with ⟨_,rfl⟩ | ⟨h8,_⟩
    · simp
    · simp [h8]
 have hr:xk k (if k=1 then t else 2162688)=true:=by
  unfold xk
  by_cases hk:k=2
  · subst hk; rfl
  · rw [if_neg hk,if_pos (by omega)]; exact q4 (by omega)
 unfold yF
 rw [hn,hl,if_neg (by simp),if_neg (by simp),if_neg (by dsimp only; omega),if_neg (by dsimp only; rw [hr]; simp)]
theorem WI (D:ByteArray):yA D<4294967296:=by unfold yA; omega
theorem LaidE.mk' {p:ByteArray} {k m:Int} {t:Nat} {D:ByteArray} (h:xU p k m t D=0) (hp:p.size≤300) (ht:t<4294967296) (M:Int) (X:ByteArray)
 (hm:M=0∨M=8) (hf:k=1→(M=0∧X=D)∨(M=8∧X.size<D.size∧BackP D X)) (hd:k≠1→M=0∧X=⟨#[]⟩) :
 LaidE p k m t D ⟨p,M,if k=1 then yA D else 0,X.size,D.size,k,m,if k=1 then t else 2162688,0⟩ X where
 fits:=⟨by dsimp only; omega,by dsimp only; split; exact WI D; decide,by dsimp only; split<;>omega⟩
 right:=YX h hp ht M X hm (fun hk=>(hf hk).imp id (fun h=>⟨h.1,h.2.1⟩)) hd
 hp:=rfl
 hk:=rfl
 hmd:=rfl
 hpos:=rfl
 hwh:=rfl
 hl:=rfl
 file:=fun hk=>⟨if_pos hk,if_pos hk,hf hk⟩
 dir:=fun hk=>by
  unfold xU at h
  split at h
  · rename_i h1; exact absurd h h1
  rename_i h1
  split at h
  · cases h
  obtain ⟨q1,q2,q3,q4,q5⟩:=ku (by simpa using h1)
  have hk2:k=2:=by omega
  exact ⟨hk2,(q2 hk2).2,(q2 hk2).1,(hd hk).2,if_neg hk,if_neg hk,(hd hk).1⟩
end Go.Proofs.YtfkcdnaghndgfaaGreatDoor
namespace Go.Proofs.YtfkcdnaghndgfaaGreatDoor
open Go.RowKit
def XP (s:ByteArray) (r:RecD):Int×Int×Nat×ByteArray×Nat :=
 if (xE s r).2.2≠0 then (0,0,0,⟨#[]⟩,(xE s r).2.2) else (r.k,r.md,if r.k=1 then r.t else 0,(xE s r).1,0)
def zb1 (x:Int×Int×Nat×ByteArray×Nat):Value := .tuple #[Xr x.1 x.2.1 x.2.2.1 x.2.2.2.1,.int .i64 (x.2.2.2.2:Nat)]
theorem zcW {d:ByteArray} {r:RecD} (h:(ZH d r).2=0):(((ZH d r).1.size:Nat):Int)=r.wh:=by
 unfold ZH at h ⊢
 split at h
 · cases h
 rename_i h1
 split at h
 · cases h
 rename_i h2
 split at h
 · cases h
 rename_i h3
 rw [if_neg h1,if_neg h2,if_neg h3]
 simpa using h2
theorem zfg {d:ByteArray} {r:RecD} (h:(xg d r).2=0):(((xg d r).1.size:Nat):Int)=r.wh:=by
 unfold xg at h ⊢
 split at h
 · rename_i h1
   split at h
   · rename_i h2; exact absurd h h2
   rename_i h2
   split at h
   · cases h
   rename_i h3
   rw [if_pos h1,if_neg h2,if_neg h3]
   exact zcW h
 · rename_i h1
   rw [if_neg h1]
   exact zcW h
theorem zgf {s:ByteArray} {r:RecD} (h:(xE s r).2.2=0):(((xE s r).1.size:Nat):Int)=r.wh∧yF r=0:=by
 unfold xE at h ⊢
 split at h
 · cases h
 rename_i h1
 split at h
 · rename_i h2; exact absurd h h2
 rename_i h2
 split at h
 · cases h
 rename_i h3
 split at h
 · rename_i h4; exact absurd h h4
 rename_i h4
 split at h
 · cases h
 rename_i h5
 split at h
 · rename_i h6; exact absurd h h6
 rename_i h6
 rw [if_neg h1,if_neg h2,if_neg h3,if_neg h4,if_neg h5,if_neg h6]
 exact ⟨zfg (by simpa using h6),by simpa using h1⟩
theorem zel {s:ByteArray} {r:RecD} (h:(xE s r).2.2=0):r.k=1∨r.k=2∧(xE s r).1=⟨#[]⟩:=by
 obtain ⟨h1,h2⟩:=zgf h
 obtain ⟨-,-,-,h3⟩:=Qu h2
 rcases h3 with h3 | ⟨h3,-,-,h4,-⟩
 · exact .inl h3
 · refine .inr ⟨h3,?_⟩
   generalize (xE s r).1=D at *
   have e:za D=[]:=List.eq_nil_of_length_eq_zero (by rw [zc]; omega)
   have e2:=congrArg zd e
   rw [zz] at e2
   rw [e2]; rfl
end Go.Proofs.YtfkcdnaghndgfaaGreatDoor
namespace Go.Proofs.YtfkcdnaghndgfaaGreatDoor
open Go.RowKit
theorem Ys {a b:ByteArray} (h:a≠b):(a.toList==b.toList)=false:=by
 rw [beq_eq_false_iff_ne]
 intro h2
 rw [ByteArray.toList_eq,ByteArray.toList_eq] at h2
 exact h (ByteArray.ext (Array.ext' h2))
theorem ziM (p p2:ByteArray) (m m2 k k2 pos pos2 l wh md:Int) (sum t t2:Nat) (w:World) :
 (binOp .eql 26 (.agg #[.string p,.int .i64 m,.int .u32 (sum:Nat),.int .i64 l,.int .i64 wh,.int .i64 k,.int .i64 md,.int .u32 (t:Nat),.int .i64 pos]) (.agg #[.string p2,.int .i64 m2,.int .u32 (sum:Nat),.int .i64 l,.int .i64 wh,.int .i64 k2,.int .i64 md,.int .u32 (t2:Nat),.int .i64 pos2])).run Tryz.prog w = .ok (.bool (decide (p=p2∧m=m2∧k=k2∧t=t2∧pos=pos2))) w:=by
 by_cases h0:p=p2
 · subst h0
   by_cases h1:m=m2
   · subst h1
     by_cases h2:k=k2
     · subst h2
       by_cases h3:t=t2
       · subst h3
         by_cases h4:pos=pos2
         · subst h4
           go_simp
         · have e:(pos==pos2)=false:=by simp [h4]
           have e2:decide (pos=pos2)=false:=decide_eq_false h4
           go_simp
       · have e:((t:Int)==(t2:Int))=false:=by simp; omega
         have e2:decide (t=t2)=false:=decide_eq_false h3
         go_simp
     · have e:(k==k2)=false:=by simp [h2]
       go_simp
   · have e:(m==m2)=false:=by simp [h1]
     go_simp
 · have e:=Ys h0
   go_simp
set_option maxRecDepth 100000 in
set_option maxHeartbeats 6400000 in
theorem zeW (h r:RecD) (w:World) :
 Calls Tryz.prog 27 #[h.v,r.v] w fun e w'=>e = .returned (.bool (vY h r))∧Upd [] w w':=by
 obtain ⟨p,m,sum,l,wh,k,md,t,pos⟩:=h
 obtain ⟨p2,m2,sum2,l2,wh2,k2,md2,t2,pos2⟩:=r
 unfold RecD.v vY
 dsimp only
 have HQ:=Lib.hid (fun w=>ziM p p2 m m2 k k2 pos pos2 l2 wh2 md2 sum2 t t2 w)
 generalize decide (p=p2∧m=m2∧k=k2∧t=t2∧pos=pos2)=B at *
 have HA:=Lib.hid ((Blk.new w [.string p,.int .i64 m,.int .u32 (sum:Nat),.int .i64 l,.int .i64 wh,.int .i64 k,.int .i64 md,.int .u32 (t:Nat),.int .i64 pos] 26).alloc (.cells #[.string p2,.int .i64 m2,.int .u32 (sum2:Nat),.int .i64 l2,.int .i64 wh2,.int .i64 k2,.int .i64 md2,.int .u32 (t2:Nat),.int .i64 pos2] 26))
 have HB:Hid (Blk ((w.alloc (.cells #[.string p,.int .i64 m,.int .u32 (sum:Nat),.int .i64 l,.int .i64 wh,.int .i64 k,.int .i64 md,.int .u32 (t:Nat),.int .i64 pos] 26)).alloc (.cells #[.string p2,.int .i64 m2,.int .u32 (sum2:Nat),.int .i64 l2,.int .i64 wh2,.int .i64 k2,.int .i64 md2,.int .u32 (t2:Nat),.int .i64 pos2] 26)) (w.heap.size+1) [.string p2,.int .i64 m2,.int .u32 (sum2:Nat),.int .i64 l2,.int .i64 wh2,.int .i64 k2,.int .i64 md2,.int .u32 (t2:Nat),.int .i64 pos2] 26):=Lib.hid (by
  have h:=Blk.new (w.alloc (.cells #[.string p,.int .i64 m,.int .u32 (sum:Nat),.int .i64 l,.int .i64 wh,.int .i64 k,.int .i64 md,.int .u32 (t:Nat),.int .i64 pos] 26)) [.string p2,.int .i64 m2,.int .u32 (sum2:Nat),.int .i64 l2,.int .i64 wh2,.int .i64 k2,.int .i64 md2,.int .u32 (t2:Nat),.int .i64 pos2] 26
  simpa using h)
 have HU:=Lib.hid (((Upd.refl [] w).alloc (.cells #[.string p,.int .i64 m,.int .u32 (sum:Nat),.int .i64 l,.int .i64 wh,.int .i64 k,.int .i64 md,.int .u32 (t:Nat),.int .i64 pos] 26)).alloc (.cells #[.string p2,.int .i64 m2,.int .u32 (sum2:Nat),.int .i64 l2,.int .i64 wh2,.int .i64 k2,.int .i64 md2,.int .u32 (t2:Nat),.int .i64 pos2] 26))
 go_enter Tryz.func27,Tryz.ntmps27
 go_upto_region 1 with fail
 change Code.wp _ _ _ _ ((w.alloc (.cells #[.string p,.int .i64 m,.int .u32 (sum:Nat),.int .i64 l,.int .i64 wh,.int .i64 k,.int .i64 md,.int .u32 (t:Nat),.int .i64 pos] 26)).alloc (.cells #[.string p2,.int .i64 m2,.int .u32 (sum2:Nat),.int .i64 l2,.int .i64 wh2,.int .i64 k2,.int .i64 md2,.int .u32 (t2:Nat),.int .i64 pos2] 26))
 generalize (w.alloc (.cells #[.string p,.int .i64 m,.int .u32 (sum:Nat),.int .i64 l,.int .i64 wh,.int .i64 k,.int .i64 md,.int .u32 (t:Nat),.int .i64 pos] 26)).alloc (.cells #[.string p2,.int .i64 m2,.int .u32 (sum2:Nat),.int .i64 l2,.int .i64 wh2,.int .i64 k2,.int .i64 md2,.int .u32 (t2:Nat),.int .i64 pos2] 26)=w1 at *
 obtain ⟨b,hb⟩ : ∃ b,w.heap.size=b:=⟨_,rfl⟩
 obtain ⟨c,hc⟩ : ∃ c,b+1=c:=⟨_,rfl⟩
 rw [hb] at HA HB ⊢
 rw [hc] at HB ⊢
 have hbc:b≠c:=by omega
 have hcb:c≠b:=by omega
 have HW:=Lib.hid (show w.heap.size≤b by omega)
 clear hb hc
 have rA:=HB.out.all
 go_cut [4] (fun s4 wx=>s4 = .bool false∧Blk wx b [.string p,.int .i64 m,.int .u32 (sum2:Nat),.int .i64 l2,.int .i64 wh2,.int .i64 k,.int .i64 md2,.int .u32 (t:Nat),.int .i64 pos] 26∧Blk wx c [.string p2,.int .i64 m2,.int .u32 (sum2:Nat),.int .i64 l2,.int .i64 wh2,.int .i64 k2,.int .i64 md2,.int .u32 (t2:Nat),.int .i64 pos2] 26∧Upd [] w wx)
 case first =>
  have HA0:=Lib.hid HA.out.drew
  have HB0:=Lib.hid HB.out.drew
  have HU0:=Lib.hid HU.out.drew
  refine wp_region_held_drew (S:=fun w'=>Blk w' c [.string p2,.int .i64 m2,.int .u32 (sum2:Nat),.int .i64 l2,.int .i64 wh2,.int .i64 k2,.int .i64 md2,.int .u32 (t2:Nat),.int .i64 pos2] 26) (by kernel_rfl) HB.out.drew (fun hHeld=>hdN ?_)
  generalize w1.drew=W0 at *
  clear HA HB HU rA
  refine hdT 0 (some 5) ?_; refine hdT 1 (some 6) ?_ (hy:=by intro w0 hSw; have q0:=hSw.cell 6 rfl; go_simp; try with_reducible rfl)
  refine hdT 2 (some 7) ?_; refine hdT 3 (some 8) ?_ (hy:=by intro w0 hSw; have q0:=hSw.cell 2 rfl; go_simp; try with_reducible rfl)
  refine hdT 4 (some 9) ?_; refine hdT 5 (some 10) ?_ (hy:=by intro w0 hSw; have q0:=hSw.cell 3 rfl; go_simp; try with_reducible rfl)
  refine hdT 6 (some 11) ?_; refine hdT 7 (some 12) ?_ (hy:=by intro w0 hSw; have q0:=hSw.cell 4 rfl; go_simp; try with_reducible rfl)
  refine hdT 8 (some 13) ?_
  refine hdO 9 (fun K hK=>?_)
  have kc:=HA0.out.cell 6 rfl
  have kf:=HA0.out.frz 6
  go_simp
  go_wp2
  refine hK.out _ _ (HB0.out.setFar (a:=⟨b,6,none⟩) _ hcb) (fun hHeld=>hdN ?_)
  clear hK K
  have HA1:=Lib.hid (HA0.out.set 6 (.int .i64 md2))
  have HB1:=Lib.hid hHeld
  have HU1:=Lib.hid (HU0.out.setCell (p:=⟨b,6,none⟩) (.inr HW.out) (.int .i64 md2))
  generalize W0.setCell ⟨b,6,none⟩ (.int .i64 md2)=W1 at *
  clear kc kf HA0 HB0 HU0
  refine hdT 10 (some 14) ?_
  refine hdO 11 (fun K hK=>?_)
  have kc:=HA1.out.cell 2 rfl
  have kf:=HA1.out.frz 2
  go_simp
  go_wp2
  refine hK.out _ _ (HB1.out.setFar (a:=⟨b,2,none⟩) _ hcb) (fun hHeld=>hdN ?_)
  clear hK K
  have HA2:=Lib.hid (HA1.out.set 2 (.int .u32 (sum2:Nat)))
  have HB2:=Lib.hid hHeld
  have HU2:=Lib.hid (HU1.out.setCell (p:=⟨b,2,none⟩) (.inr HW.out) (.int .u32 (sum2:Nat)))
  generalize W1.setCell ⟨b,2,none⟩ (.int .u32 (sum2:Nat))=W2 at *
  clear kc kf HA1 HB1 HU1
  refine hdT 12 (some 15) ?_
  refine hdO 13 (fun K hK=>?_)
  have kc:=HA2.out.cell 3 rfl
  have kf:=HA2.out.frz 3
  go_simp
  go_wp2
  refine hK.out _ _ (HB2.out.setFar (a:=⟨b,3,none⟩) _ hcb) (fun hHeld=>hdN ?_)
  clear hK K
  have HA3:=Lib.hid (HA2.out.set 3 (.int .i64 l2))
  have HB3:=Lib.hid hHeld
  have HU3:=Lib.hid (HU2.out.setCell (p:=⟨b,3,none⟩) (.inr HW.out) (.int .i64 l2))
  generalize W2.setCell ⟨b,3,none⟩ (.int .i64 l2)=W3 at *
  clear kc kf HA2 HB2 HU2
  refine hdT 14 (some 16) ?_
  refine hdO 15 (fun K hK=>?_)
  have kc:=HA3.out.cell 4 rfl
  have kf:=HA3.out.frz 4
  go_simp
  go_wp2
  refine hK.out _ _ (HB3.out.setFar (a:=⟨b,4,none⟩) _ hcb) (fun hHeld=>hdN ?_)
  clear hK K
  have HA4:=Lib.hid (HA3.out.set 4 (.int .i64 wh2))
  have HB4:=Lib.hid hHeld
  have HU4:=Lib.hid (HU3.out.setCell (p:=⟨b,4,none⟩) (.inr HW.out) (.int .i64 wh2))
  generalize W3.setCell ⟨b,4,none⟩ (.int .i64 wh2)=W4 at *
  clear kc kf HA3 HB3 HU3
  refine wpAnyH_done (by kernel_rfl) ?_ 0
  go_wp2
  go_meet
  exact ⟨rfl,HA4.out,HB4.out,HU4.out⟩
 case rest =>
  obtain ⟨rfl,hA,hB,hU⟩:=hcut
  have HUF:=Lib.hid hU
  have aA:=hA.all
  have bA:=hB.all
  have HQ2:=HQ.out
  clear hA hB hU HA HB HU rA
  go_wp2
  go_returns
  exact ⟨rfl,HUF.out⟩
end Go.Proofs.YtfkcdnaghndgfaaGreatDoor
namespace Go.Proofs.YtfkcdnaghndgfaaGreatDoor
open Go.RowKit
theorem zfC:(Tryz.prog.info? 5).map (fun i=>(i.zero,i.size,i.bytes))=some (some (.int .u8 0),1,1):=by kernel_rfl
theorem Blk.conv {P:Program} {w:World} {b n c:Nat} {l:List Nat} {src dst e:TypeId} (h:Blk w b (u8s l) e) (hl:l.length=n) (hs:P.underlying src=some (.slice e)) (he:P.underlying e=some (.int .u8)) (hd:P.underlying dst=some .string) :
 (convert src dst (.slice (some ⟨b,0,none⟩) n c)).run P w = .ok (.string (zd l)) w:=by
 have hr:=run_convert_bytes_arg w src e hs he b 0 n c (l.map fun x:Nat=>(x:Int)) (by simpa using hl) (fun i hi=>by
  have hil:i<l.length:=by omega
  rw [Nat.zero_add]
  refine h.cell i ?_
  simp [u8s,hil]) dst hd
 rw [hr]
 congr 2
 simp only [strOfNums,zd,List.map_map]
 congr 2
theorem zhn (i:Nat):(2:Nat)^(8*i)=256^i:=by rw [Nat.pow_mul]
theorem ziu (a b:Nat) (ha:a<18446744073709551616) (hb:b<18446744073709551616):bits .or .u64 (a:Int) (b:Int)=((a ||| b:Nat):Int):=by
 show IntKind.u64.wrap ((BitVec.ofInt 64 (a:Int) ||| BitVec.ofInt 64 (b:Int)).toNat:Int)=_
 rw [BitVec.toNat_or,qm 64 a ha,qm 64 b hb]
 exact IntWalk.u64_in _ (by have:=Nat.or_lt_two_pow (n:=64) ha hb; omega)
theorem ziB (m x i:Nat) (hm:m<256^i) (hx:x<256) (hi:i≤7):bits BinOp.or IntKind.u64 (m:Int) (IntKind.u64.wrap (IntKind.u64.wrap (x:Int)*2^(8*i)))=((m+256^i*x:Nat):Int):=by
 have hp:256^i≤256^7:=Nat.pow_le_pow_right (by omega) hi
 have h1:IntKind.u64.wrap (x:Int)=(x:Int):=IntWalk.u64_in _ (by omega)
 have hb:256^i*x≤256^7*255:=Nat.mul_le_mul hp (by omega)
 have e2:(x:Int)*2^(8*i)=((256^i*x:Nat):Int):=by rw [← zhn]; push_cast; exact Int.mul_comm _ _
 rw [h1,e2,IntWalk.u64_in _ (by omega),ziu _ _ (by omega) (by omega),← zhn,Nat.or_comm,← Nat.two_pow_add_eq_or_of_lt (by rw [zhn]; exact hm),Nat.add_comm]
theorem zgn (l:List Nat) (i x:Nat):(u8s l).set i (.int .u8 (x:Nat))=u8s (l.set i x):=by simp [u8s]
theorem zdz (n k i:Nat) (h:i<k):((leP n i++List.replicate (k-i) 0).set i (n/256^i%256))=leP n (i+1)++List.replicate (k-(i+1)) 0:=by
 rw [show k-i=(k-(i+1))+1 by omega,List.replicate_succ,List.set_append_right _ _ (by rw [yH]; omega),yH,Nat.sub_self,List.set_cons_zero,WC,List.append_assoc]; rfl
set_option maxRecDepth 100000 in
set_option maxHeartbeats 1600000 in
theorem zhy (n k:Nat) (w:World) (hn:n<18446744073709551616) (hk:k≤8):Calls Tryz.prog 87 #[.int .u64 (n:Nat),.int .i64 (k:Nat)] w fun e w'=>e = .returned (.string (zd (leP n k)))∧Upd [] w w':=by
 have hmk:=fun w=>run_make_row' (P:=Tryz.prog) 75 5 (.int .u8 0) 1 Tryz.underlying75 zfC rfl .i64 .i64 k (by omega) (by omega) (w:=w)
 have hmx:max (0:Int) (min (k:Int) 8)=(k:Int):=by omega
 rw [← hmx] at hmk
 have hk8:(k:Int)≤8:=by omega
 have hk0:(0:Int)≤(k:Int):=by omega
 have HX:=Lib.hid hmx
 clear hmx
 go_enter Tryz.func87,Tryz.ntmps87
 go_wp2
 have hB0:Blk (w.alloc (.cells (madeCells #[.int .u8 0] k) 5)) w.heap.size (u8s (leP n 0++List.replicate (k-0) 0)) 5:=by
  have:=heap_alloc_new w (.cells (madeCells #[.int .u8 0] k) 5)
  unfold Blk
  rw [this]
  congr 2
  apply Array.ext
  · simp [madeCells,u8s,leP]
  · intro j h1 h2
    simp [madeCells,u8s,leP,Nat.mod_one]
 have hU0:Upd [] w (w.alloc (.cells (madeCells #[.int .u8 0] k) 5)):=(Upd.refl [] w).alloc _
 generalize w.alloc (.cells (madeCells #[.int .u8 0] k) 5)=w0 at *
 obtain ⟨b0,hb0⟩ : ∃ b0,w.heap.size=b0:=⟨_,rfl⟩
 rw [hb0] at hB0 ⊢
 have HB:=Lib.hid (show w.heap.size≤b0 by omega)
 clear hb0 hmk
 go_loopg [13] k (fun g s13 wr => ∃ i,i≤k∧g=k-i∧s13 = .int .i64 (i:Nat)∧Blk wr b0 (u8s (leP n i++List.replicate (k-i) 0)) 5∧Upd [] w wr)
 case atStart=>exact ⟨0,by omega,rfl,rfl,hB0,hU0⟩
 case round =>
  obtain ⟨i,hi,rfl,rfl,hB,hU⟩:=hrel
  clear hB0 hU0
  by_cases hc9:i<k
  · have hcz:(i:Int)<(k:Int):=by omega
    have HST:=Lib.hid (zdz n k i hc9)
    have hlen:(leP n i++List.replicate (k-i) 0).length=k:=by rw [List.length_append,yH,List.length_replicate]; omega
    obtain ⟨q,hq⟩ : ∃ q,q=n/256^i%256:=⟨_,rfl⟩
    rw [← hq] at HST
    have hdv:(n:Int)/2^(8*i)%256=(q:Int):=by rw [hq,← zhn]; simp
    clear hq
    generalize leP n i++List.replicate (k-i) 0=L at *
    have c1:=hB.cell i (v := .int .u8 ((L[i]'(by omega):Nat):Int)) (by rw [u8s]; simp [hlen,hc9])
    have f1:=hB.frz i
    generalize L[i]'(by omega)=old at *
    have HLN:=Lib.hid hlen
    clear hlen
    go_wp2
    go_roundg (k-(i+1))
    · exact ⟨i+1,by omega,rfl,by first | rfl | go_num,by rw [← HST.out,← zgn]; exact hB.set i _,hU.setCell (.inr HB.out) _⟩
    · omega
  · have hcz : ¬ (i:Int)<(k:Int):=by omega
    have h9:i=k:=by omega
    subst h9
    rw [Nat.sub_self,List.replicate_zero,List.append_nil] at hB
    have hcv2:=hB.conv (P:=Tryz.prog) (c:=i) (yH i n) Tryz.underlying75 Tryz.underlying5 Tryz.underlying9
    go_wp2
    go_ret
    exact ⟨rfl,hU⟩
def YK (s:ByteArray) (k:Nat):Value:=if k≤s.size then .tuple #[.int .u64 (leG ((za s).take k):Nat),.bool true] else .tuple #[.int .u64 0,.bool false]
set_option maxRecDepth 100000 in
set_option maxHeartbeats 1600000 in
theorem zhE (s:ByteArray) (k:Nat) (w:World) (hs:s.size≤1000000) (hk:k≤8):Calls Tryz.prog 137 #[.string s,.int .i64 (k:Nat)] w fun e w'=>e = .returned (YK s k)∧Upd [] w w':=by
 have hk8:(k:Int)≤8:=by omega
 have hk0:(0:Int)≤(k:Int):=by omega
 by_cases hc:k≤s.size
 · have HV:Hid (YK s k = .tuple #[.int .u64 (leG ((za s).take k):Nat),.bool true]):=Lib.hid (if_pos hc)
   have hcz:(k:Int)≤(s.size:Int):=by omega
   go_enter Tryz.func137,Tryz.ntmps137
   go_wp2
   go_loopg [4,20] k (fun g s4 s20 wr => ∃ i m,i≤k∧g=k-i∧s20 = .int .i64 (i:Nat)∧s4 = .int .u64 (m:Nat)∧m<256^i∧Hid (m=leG ((za s).take i))∧Upd [] w wr)
   case atStart=>exact ⟨0,0,by omega,rfl,rfl,rfl,by simp,Lib.hid (by simp [leG]),Upd.refl _ _⟩
   case round =>
    obtain ⟨i,m,hi,rfl,rfl,rfl,hm,HM,hU⟩:=hrel
    by_cases hc9:i<k
    · have hcz2:(i:Int)<(k:Int):=by omega
      have hcs:i<s.size:=by omega
      have hbl:s[i].toNat<256:=s[i].toNat_lt
      have HO:=Lib.hid (ziB m s[i].toNat i hm hbl (by omega))
      have HO2:Hid (bits BinOp.or IntKind.u64 (m:Int) (IntKind.u64.wrap ((s[i].toNat:Int)*2^(8*i)))=((m+256^i*s[i].toNat:Nat):Int)):=Lib.hid (by
       have:=HO.out
       rwa [show IntKind.u64.wrap (s[i].toNat:Int)=(s[i].toNat:Int) from IntWalk.u64_in _ (by omega)] at this)
      have HN:Hid (m+256^i*s[i].toNat<256^(i+1)):=Lib.hid (by
       have h1:256^i*s[i].toNat≤256^i*255:=Nat.mul_le_mul_left _ (by omega)
       rw [Nat.pow_succ]; omega)
      have HG:Hid (m+256^i*s[i].toNat=leG ((za s).take (i+1))):=Lib.hid (by
       rw [List.take_succ_eq_append_getElem (by rw [zc]; exact hcs),zfP,← HM.out,yC s i hcs,List.length_take,zc,Nat.min_eq_left (by omega)])
      have HM1:=Lib.hid hm
      clear HM hm
      go_wp2
      go_roundg (k-(i+1))
      · exact ⟨i+1,m+256^i*s[i].toNat,by omega,rfl,by first | rfl | go_num,by first | rw [HO.out] | rw [HO2.out],HN.out,HG,hU⟩
      · omega
    · have hcz : ¬ (i:Int)<(k:Int):=by omega
      have h9:i=k:=by omega
      subst h9
      go_wp2
      go_ret2
      exact ⟨by rw [HV.out,HM.out]; rfl,hU⟩
 · have HV:Hid (YK s k = .tuple #[.int .u64 0,.bool false]):=Lib.hid (if_neg hc)
   go_enter Tryz.func137,Tryz.ntmps137
   go_wp2
   go_ret2
   exact ⟨by rw [HV.out]; rfl,Upd.refl _ _⟩
set_option maxRecDepth 100000 in
set_option maxHeartbeats 1600000 in
theorem zfG (s:ByteArray) (k:Nat) (w:World) (hs:s.size≤1000000) (hk:k≤8):Calls Tryz.prog 100 #[.string s,.int .i64 (k:Nat)] w fun e w'=>e = .returned (YK s k)∧Upd [] w w':=by
 have hk8:(k:Int)≤8:=by omega
 have hk0:(0:Int)≤(k:Int):=by omega
 by_cases hc:k≤s.size
 · have HV:Hid (YK s k = .tuple #[.int .u64 (leG ((za s).take k):Nat),.bool true]):=Lib.hid (if_pos hc)
   have hcz:(k:Int)≤(s.size:Int):=by omega
   go_enter Tryz.func100,Tryz.ntmps100
   go_wp2
   go_loopg [6,7] (0+k) (fun g s6 s7 wr => ∃ i m,i≤k∧g=0+i∧s7 = .int .i64 ((i:Nat)-1)∧s6 = .int .u64 (m:Nat)∧m<256^(k-i)∧Hid (m=leG (((za s).take k).drop i))∧Upd [] w wr)
   case atStart=>exact ⟨k,0,by omega,rfl,rfl,rfl,by simp,Lib.hid (by rw [List.drop_of_length_le (by rw [List.length_take]; omega)]; rfl),Upd.refl _ _⟩
   case round =>
    obtain ⟨i,m,hi,rfl,rfl,rfl,hm,HM,hU⟩:=hrel
    by_cases hc9:0<i
    · have hcz2:(0:Int)≤(i:Int)-1:=by omega
      obtain ⟨j,rfl⟩ : ∃ j,i=j+1:=⟨i-1,by omega⟩
      have hcs:j<s.size:=by omega
      have hbl:s[j].toNat<256:=s[j].toNat_lt
      have h7:256^(k-(j+1))≤256^7:=Nat.pow_le_pow_right (by omega) (by omega)
      have HW:Hid (IntKind.u64.wrap (IntKind.u64.wrap (256*(m:Int))+(s[j].toNat:Int))=((s[j].toNat+256*m:Nat):Int)):=Lib.hid (by
       rw [show IntKind.u64.wrap (256*(m:Int))=256*(m:Int) from IntWalk.u64_in _ (by omega),IntWalk.u64_in _ (by omega)]; omega)
      have HN:Hid (s[j].toNat+256*m<256^(k-j)):=Lib.hid (by
       rw [show k-j=(k-(j+1))+1 by omega,Nat.pow_succ]; omega)
      have HG:Hid (s[j].toNat+256*m=leG (((za s).take k).drop j)):=Lib.hid (by
       have hl:j<((za s).take k).length:=by rw [List.length_take,zc]; omega
       rw [List.drop_eq_getElem_cons hl,leG,← HM.out,List.getElem_take,yC s j hcs])
      clear HM hm h7
      go_wp2
      go_roundg (0+j)
      · exact ⟨j,s[j].toNat+256*m,by omega,rfl,by first | rfl | go_num,by rw [HW.out],HN.out,HG,hU⟩
      · omega
    · have hcz2 : ¬ (0:Int)≤(i:Int)-1:=by omega
      have h9:i=0:=by omega
      subst h9
      go_wp2
      go_ret2
      exact ⟨by rw [HV.out,HM.out]; rfl,hU⟩
 · have HV:Hid (YK s k = .tuple #[.int .u64 0,.bool false]):=Lib.hid (if_neg hc)
   go_enter Tryz.func100,Tryz.ntmps100
   go_wp2
   go_ret2
   exact ⟨by rw [HV.out]; rfl,Upd.refl _ _⟩
end Go.Proofs.YtfkcdnaghndgfaaGreatDoor
