/- Package swingleref19: At; what Read tells; laws of records in memory. -/
import Derived.Test.YtfkcdnaghndgfaaGreatDoorQAS
import Derived.Test.YtfkcdnaghndgfaaGreatDoorQAR
import Derived.Test.YtfkcdnaghndgfaaGreatDoorQAQ
import Derived.Test.YtfkcdnaghndgfaaGreatDoorQAP
set_option linter.unusedVariables false
set_option linter.unusedSimpArgs false
set_option linter.unusedSectionVars false
namespace Go.Proofs.YtfkcdnaghndgfaaGreatDoor
open Go.RowKit
def zgA (x:RecD×Nat×Bool×Nat):Value := .tuple #[x.1.v,.int .i64 (x.2.1:Nat),.bool x.2.2.1,.int .i64 (x.2.2.2:Nat)]
theorem zbR {l:List Nat} (h:(yl l).2.2=true):(yl l).1.length≤200:=by
 unfold yl at h ⊢
 repeat' split
 · rename_i h1; exact Yn h1
 · simp
 · rename_i h1
   rcases h1 with h1 | h1
   · exact Yn h1
   · rw [h1]; decide
 · simp
theorem xy {fn:Func} {p t u v:Tmp} (h:fn.results = #[.cell p 26,.tmp t,.tmp u,.tmp v]) (tmps:Array Value) (w:World) (g:Nat) (c0 c1 c2 c3 c4 c5 c6 c7 c8:Value) (hp:tmps.getD p undef = .pointer (some ⟨g,0,none⟩)) (hB:Blk w g [c0,c1,c2,c3,c4,c5,c6,c7,c8] 26) :
 (results fn tmps).run Tryz.prog w = .ok (.tuple #[.agg #[c0,c1,c2,c3,c4,c5,c6,c7,c8],tmps.getD t undef,tmps.getD u undef,tmps.getD v undef]) w:=by
 have h0:=hB.cell 0 rfl
 have h1:=hB.cell 1 rfl
 have h2:=hB.cell 2 rfl
 have h3:=hB.cell 3 rfl
 have h4:=hB.cell 4 rfl
 have h5:=hB.cell 5 rfl
 have h6:=hB.cell 6 rfl
 have h7:=hB.cell 7 rfl
 have h8:=hB.cell 8 rfl
 have hp2:tmps[p]?.getD undef = .pointer (some ⟨g,0,none⟩):=by rw [← hp]; simp
 simp [results,h,go_sem,hp2,h0,h1,h2,h3,h4,h5,h6,h7,h8]
theorem Blk.set9 {w:World} {b:Nat} {a0 a1 a2 a3 a4 a5 a6 a7 a8:Value} {t:TypeId} (h:Blk w b [a0,a1,a2,a3,a4,a5,a6,a7,a8] t) (v0 v1 v2 v3 v4 v5 v6 v7 v8:Value) :
 Blk (((((((((w.setCell ⟨b,0,none⟩ v0).setCell ⟨b,1,none⟩ v1).setCell ⟨b,2,none⟩ v2).setCell ⟨b,3,none⟩ v3).setCell ⟨b,4,none⟩ v4).setCell ⟨b,5,none⟩ v5).setCell ⟨b,6,none⟩ v6).setCell ⟨b,7,none⟩ v7).setCell ⟨b,8,none⟩ v8) b [v0,v1,v2,v3,v4,v5,v6,v7,v8] t :=
 ((((((((h.set 0 v0).set 1 v1).set 2 v2).set 3 v3).set 4 v4).set 5 v5).set 6 v6).set 7 v7).set 8 v8
theorem Upd.set9 {fp:List Nat} {w0 w:World} {b:Nat} (h:Upd fp w0 w) (hb:b∈fp∨w0.heap.size≤b) (v0 v1 v2 v3 v4 v5 v6 v7 v8:Value) :
 Upd fp w0 (((((((((w.setCell ⟨b,0,none⟩ v0).setCell ⟨b,1,none⟩ v1).setCell ⟨b,2,none⟩ v2).setCell ⟨b,3,none⟩ v3).setCell ⟨b,4,none⟩ v4).setCell ⟨b,5,none⟩ v5).setCell ⟨b,6,none⟩ v6).setCell ⟨b,7,none⟩ v7).setCell ⟨b,8,none⟩ v8) :=
 ((((((((h.setCell hb v0).setCell hb v1).setCell hb v2).setCell hb v3).setCell hb v4).setCell hb v5).setCell hb v6).setCell hb v7).setCell hb v8
theorem Blk.far9 {w:World} {d b:Nat} {cs:List Value} {t:TypeId} (h:Blk w d cs t) (hb:d≠b) (v0 v1 v2 v3 v4 v5 v6 v7 v8:Value):Blk (((((((((w.setCell ⟨b,0,none⟩ v0).setCell ⟨b,1,none⟩ v1).setCell ⟨b,2,none⟩ v2).setCell ⟨b,3,none⟩ v3).setCell ⟨b,4,none⟩ v4).setCell ⟨b,5,none⟩ v5).setCell ⟨b,6,none⟩ v6).setCell ⟨b,7,none⟩ v7).setCell ⟨b,8,none⟩ v8) d cs t:=(Blk.setFar (Blk.setFar (Blk.setFar (Blk.setFar (Blk.setFar (Blk.setFar (Blk.setFar (Blk.setFar (Blk.setFar h (a:=⟨b,0,none⟩) v0 hb) (a:=⟨b,1,none⟩) v1 hb) (a:=⟨b,2,none⟩) v2 hb) (a:=⟨b,3,none⟩) v3 hb) (a:=⟨b,4,none⟩) v4 hb) (a:=⟨b,5,none⟩) v5 hb) (a:=⟨b,6,none⟩) v6 hb) (a:=⟨b,7,none⟩) v7 hb) (a:=⟨b,8,none⟩) v8 hb)
def Rd1 (w0:World) (b:Nat) (w:World):Prop:=w0.heap.size≤b∧Blk w b [.string { data := #[] },.int .i64 0,.int .u32 0,.int .i64 0,.int .i64 0,.int .i64 0,.int .i64 0,.int .u32 0,.int .i64 0] 26∧Upd [] w0 w
theorem Rd1.upd {w0 w w':World} {b:Nat} {fp:List Nat} (h:Rd1 w0 b w) (hu:Upd fp w w') (hf : ∀ k,k∈fp→b<k):Rd1 w0 b w':=⟨h.1,h.2.1.upd hu (fun hm=>by have:=hf b hm; omega),h.2.2.trans hu (fun k hk => .inr (by have:=hf k hk; have:=h.1; omega))⟩
def Rd3 (w0:World) (b:Nat) (w:World):Prop:=w0.heap.size≤b∧Blk w b [.string .empty,.int .i64 0,.int .u32 0,.int .i64 0,.int .i64 0,.int .i64 0,.int .i64 0,.int .u32 0,.int .i64 0] 26∧Blk w (b+1) [.string .empty,.int .i64 0,.int .u32 0,.int .i64 0,.int .i64 0,.int .i64 0,.int .i64 0,.int .u32 0,.int .i64 0] 26∧Upd [] w0 w
theorem Rd3.new (w:World):Rd3 w w.heap.size ((w.alloc (.cells #[.string .empty,.int .i64 0,.int .u32 0,.int .i64 0,.int .i64 0,.int .i64 0,.int .i64 0,.int .u32 0,.int .i64 0] 26)).alloc (.cells #[.string .empty,.int .i64 0,.int .u32 0,.int .i64 0,.int .i64 0,.int .i64 0,.int .i64 0,.int .u32 0,.int .i64 0] 26)):=by
 have h:=Blk.new (w.alloc (.cells #[.string .empty,.int .i64 0,.int .u32 0,.int .i64 0,.int .i64 0,.int .i64 0,.int .i64 0,.int .u32 0,.int .i64 0] 26)) [.string .empty,.int .i64 0,.int .u32 0,.int .i64 0,.int .i64 0,.int .i64 0,.int .i64 0,.int .u32 0,.int .i64 0] 26
 rw [World.size_alloc] at h
 exact ⟨Nat.le_refl _,(Blk.new w [.string .empty,.int .i64 0,.int .u32 0,.int .i64 0,.int .i64 0,.int .i64 0,.int .i64 0,.int .u32 0,.int .i64 0] 26).alloc _,h,((Upd.refl [] w).alloc _).alloc _⟩
theorem Rd3.upd {w0 w w':World} {b:Nat} (h:Rd3 w0 b w) (hu:Upd [] w w'):Rd3 w0 b w':=⟨h.1,h.2.1.upd hu (by simp),h.2.2.1.upd hu (by simp),h.2.2.2.then hu⟩
theorem Rd3.far {w0 w:World} {b q o:Nat} (h:Rd3 w0 b w) (hq:b+1<q) (v:Value):Rd3 w0 b (w.setCell ⟨q,o,none⟩ v):=⟨h.1,h.2.1.setFar _ (by simp; omega),h.2.2.1.setFar _ (by simp; omega),h.2.2.2.setCell (p:=⟨q,o,none⟩) (.inr (by have:=h.1; dsimp only; omega)) v⟩
end Go.Proofs.YtfkcdnaghndgfaaGreatDoor
namespace Go.Proofs.YtfkcdnaghndgfaaGreatDoor
open Go.RowKit
theorem jY {fn:Func} {p t u:Tmp} (h:fn.results = #[.cell p 26,.tmp t,.tmp u]) (tmps:Array Value) (w:World) (g:Nat) (c0 c1 c2 c3 c4 c5 c6 c7 c8:Value) (hp:tmps.getD p undef = .pointer (some ⟨g,0,none⟩)) (hB:Blk w g [c0,c1,c2,c3,c4,c5,c6,c7,c8] 26) :
 (results fn tmps).run Tryz.prog w = .ok (.tuple #[.agg #[c0,c1,c2,c3,c4,c5,c6,c7,c8],tmps.getD t undef,tmps.getD u undef]) w:=by
 have hA:=hB.all
 have hp2:tmps[p]?.getD undef = .pointer (some ⟨g,0,none⟩):=by rw [← hp]; simp
 simp [results,h,go_sem,hp2,hA]
def Ly (w0:World) (g:Nat) (k m:Int) (t:Nat) (D:ByteArray) (w:World):Prop:=w0.heap.size≤g∧Blk w g [.int .i64 k,.int .i64 m,.int .u32 (t:Nat),.string D] 24∧Blk w (g+1) [.string .empty,.int .i64 0,.int .u32 0,.int .i64 0,.int .i64 0,.int .i64 0,.int .i64 0,.int .u32 0,.int .i64 0] 26∧Upd [] w0 w
theorem Ly.upd {w0 w w':World} {g:Nat} {k m:Int} {t:Nat} {D:ByteArray} {fp:List Nat} (h:Ly w0 g k m t D w) (hu:Upd fp w w') (hf : ∀ j,j∈fp→g+1<j):Ly w0 g k m t D w' :=
 ⟨h.1,h.2.1.upd hu (fun hm=>by have:=hf _ hm; omega),h.2.2.1.upd hu (fun hm=>by have:=hf _ hm; omega),h.2.2.2.trans hu (fun j hj => .inr (by have:=hf j hj; have:=h.1; omega))⟩
theorem Ly.drew {w0 w:World} {g:Nat} {k m:Int} {t:Nat} {D:ByteArray} (h:Ly w0 g k m t D w):Ly w0 g k m t D w.drew:=h.upd ((Upd.refl [] w).drew) (by simp)
theorem zhE {p:ByteArray} {k m:Int} {t:Nat} {D:ByteArray} (h:qN k m t D=0) (hk:k≠0) (hp:p.size≤300) (ht:t<4294967296) (M:Int) (X:ByteArray)
 (hm:M=0∨M=8) (hf:k=1→(M=0∧X=D)∨(M=8∧X.size<D.size∧BackP D X)) (hd:k≠1→M=0∧X=⟨#[]⟩) :
 yu ⟨p,M,if k=1 then xw D else 0,X.size,D.size,k,m,if k=1 then t else 2162688,0⟩=yZ p k m t D:=by
 by_cases hn:js ⟨p,0,0,0,0,k,m,t,0⟩=true
 · have hw:yZ p k m t D=0:=by unfold yZ; rw [if_neg (by simp [h]),if_neg hk,if_neg (by simp [hn])]
   rw [hw]
   exact YQ hw hp ht M X hm (fun hk=>(hf hk).imp id (fun h=>⟨h.1,h.2.1⟩)) hd
 · have hn2:js ⟨p,0,0,0,0,k,m,t,0⟩=false:=by simpa using hn
   have hw:yZ p k m t D=5:=by unfold yZ; rw [if_neg (by simp [h]),if_neg hk,if_pos hn2]
   rw [hw]
   exact if_pos hn2
def LayP (p:ByteArray) (k m:Int) (t:Nat) (D:ByteArray) (r:RecD) (s:ByteArray):Prop :=
 (yZ p k m t D≠0→r=qX∧s=⟨#[]⟩)∧(yZ p k m t D=0 → ∃ X,LaidE p k m t D r X∧s=zf (zB r)++X)
theorem LayP.bad {p:ByteArray} {k m:Int} {t:Nat} {D:ByteArray} {n:Nat} (h:yZ p k m t D=n) (hn:n≠0):LayP p k m t D qX ⟨#[]⟩:=⟨fun _=>⟨rfl,rfl⟩,fun e=>absurd (h.symm.trans e) hn⟩
set_option maxRecDepth 100000 in
set_option maxHeartbeats 6400000 in
theorem zc4 (p:ByteArray) (k m:Int) (t:Nat) (D:ByteArray) (lv:Int) (w:World) (hp:p.size≤300) (ht:t<4294967296) (hD:D.size≤65000)
 (hDF : ∀ w,Calls Tryz.prog 20 #[.string D,.int .i64 lv] w fun e w' => ∃ X,e = .returned (.string X)∧(X.size<D.size→BackP D X)∧Upd [] w w') :
 Calls Tryz.prog 6 #[.string p,Qe k m t D,.int .i64 lv] w fun e w' => ∃ r s,e = .returned (.tuple #[r.v,.string s,.int .i64 (yZ p k m t D:Nat)])∧LayP p k m t D r s∧Upd [] w w':=by
 have HDF:=Lib.hid hDF
 have HNR:=Lib.hid (fun z=>YH k m t D z ht (by omega))
 have HSU:=Lib.hid (fun z=>QN D z (by omega))
 have HE:=Lib.hid (fun h=>ki (k:=k) (m:=m) (t:=t) (D:=D) h)
 have HLE:=Lib.hid (fun h hk=>zhE (p:=p) (k:=k) (m:=m) (t:=t) (D:=D) h hk hp ht)
 have HMK:=Lib.hid (fun h=>LaidE.mk' (p:=p) (k:=k) (m:=m) (t:=t) (D:=D) h hp ht)
 have HWY:Hid (yZ p k m t D=if qN k m t D≠0 then qN k m t D else if k=0 then 8 else if js ⟨p,0,0,0,0,k,m,t,0⟩=false then 5 else 0):=Lib.hid rfl
 clear hDF
 generalize hWY:yZ p k m t D=WY at *
 have HWQ:=Lib.hid hWY
 clear hWY
 generalize qN k m t D=E at *
 have S:Hid (Ly w w.heap.size k m t D ((w.alloc (.cells #[.int .i64 k,.int .i64 m,.int .u32 (t:Nat),.string D] 24)).alloc (.cells #[.string .empty,.int .i64 0,.int .u32 0,.int .i64 0,.int .i64 0,.int .i64 0,.int .i64 0,.int .u32 0,.int .i64 0] 26))):=Lib.hid ⟨Nat.le_refl _,(Blk.new w [.int .i64 k,.int .i64 m,.int .u32 (t:Nat),.string D] 24).alloc _,by have h:=Blk.new (w.alloc (.cells #[.int .i64 k,.int .i64 m,.int .u32 (t:Nat),.string D] 24)) [.string .empty,.int .i64 0,.int .u32 0,.int .i64 0,.int .i64 0,.int .i64 0,.int .i64 0,.int .u32 0,.int .i64 0] 26; simpa using h,((Upd.refl [] w).alloc _).alloc _⟩
 unfold Qe at HNR ⊢
 go_enter Tryz.func6,Tryz.ntmps6
 go_upto_region 1 with fail
 change Code.wp _ _ _ _ ((w.alloc (.cells #[.int .i64 k,.int .i64 m,.int .u32 (t:Nat),.string D] 24)).alloc (.cells #[.string .empty,.int .i64 0,.int .u32 0,.int .i64 0,.int .i64 0,.int .i64 0,.int .i64 0,.int .u32 0,.int .i64 0] 26))
 generalize (w.alloc (.cells #[.int .i64 k,.int .i64 m,.int .u32 (t:Nat),.string D] 24)).alloc (.cells #[.string .empty,.int .i64 0,.int .u32 0,.int .i64 0,.int .i64 0,.int .i64 0,.int .i64 0,.int .u32 0,.int .i64 0] 26)=w1 at *
 generalize hge:w.heap.size=g at *
 clear hge
 have cA:=S.out.2.1.all
 go_wp2_with fail
 refine (HNR.out _).mono ?_
 rintro e w2 ⟨rfl,hu⟩
 have S:=Lib.hid (S.out.upd hu (by simp))
 clear hu cA HNR
 by_cases h0:E=0
 rotate_left
 · have e1:(((E:Nat):Int) != 0)=true:=by rw [bne_iff_ne]; omega
   have HV:=Lib.hid (HWY.out.trans (if_pos h0))
   have H0:=Lib.hid h0
   clear h0
   have qA:=S.out.2.2.1.all
   have fA:=S.out.2.2.1.frz
   go_wp2_with fail
   (try simp only [Exit.inBlock,Exit.then]); refine bodyPost_ret (jY rfl _ _ (g+1) _ _ _ _ _ _ _ _ _ rfl (Blk.set9 S.out.2.2.1 _ _ _ _ _ _ _ _ _)) rfl ⟨qX,⟨#[]⟩,by rw [HV.out]; rfl,LayP.bad (HWQ.out.trans HV.out) H0.out,Upd.set9 S.out.2.2.2 (.inr (by have:=S.out.1; omega)) _ _ _ _ _ _ _ _ _⟩
 have HV:=Lib.hid (HWY.out.trans (if_neg (by simp [h0])))
 obtain ⟨q1,q2,q3,q4,q5⟩:=HE.out h0
 subst h0
 clear HWY HE
 have cA:=S.out.2.1.all
 by_cases h1:k=0
 · have HV:=Lib.hid (HV.out.trans (if_pos h1))
   subst h1
   have qA:=S.out.2.2.1.all
   have fA:=S.out.2.2.1.frz
   go_wp2_with fail
   (try simp only [Exit.inBlock,Exit.then]); refine bodyPost_ret (jY rfl _ _ (g+1) _ _ _ _ _ _ _ _ _ rfl (Blk.set9 S.out.2.2.1 _ _ _ _ _ _ _ _ _)) rfl ⟨qX,⟨#[]⟩,by rw [HV.out]; rfl,LayP.bad (HWQ.out.trans HV.out) (by simp),Upd.set9 S.out.2.2.2 (.inr (by have:=S.out.1; omega)) _ _ _ _ _ _ _ _ _⟩
 have HLR:=Lib.hid (HLE.out rfl h1)
 have e1:(k==0)=false:=by rw [beq_eq_false_iff_ne]; exact h1
 go_upto_region 6 with fail
 clear HV HLE
 have HC:=Lib.hid (Blk.new w2 [.string p,.int .i64 0,.int .u32 0,.int .i64 0,.int .i64 0,.int .i64 k,.int .i64 m,.int .u32 2162688,.int .i64 0] 26)
 have hgc:g+1<w2.heap.size:=Blk.lt S.out.2.2.1
 have S:=Lib.hid (S.out.upd ((Upd.refl [] w2).alloc (.cells #[.string p,.int .i64 0,.int .u32 0,.int .i64 0,.int .i64 0,.int .i64 k,.int .i64 m,.int .u32 2162688,.int .i64 0] 26)) (by simp))
 go_upto_region 7 with fail
 change Code.wp _ _ _ _ (w2.alloc (.cells #[.string p,.int .i64 0,.int .u32 0,.int .i64 0,.int .i64 0,.int .i64 k,.int .i64 m,.int .u32 2162688,.int .i64 0] 26))
 clear cA e1
 generalize w2.alloc (.cells #[.string p,.int .i64 0,.int .u32 0,.int .i64 0,.int .i64 0,.int .i64 k,.int .i64 m,.int .u32 2162688,.int .i64 0] 26)=w3 at *
 generalize w2.heap.size=c at *
 have cA:=S.out.2.1.all
 go_upto_if 34 with fail
 clear cA
 have q2:=Lib.hid q2
 have q4:=Lib.hid q4
 go_cut [11] (fun s11 wx => ∃ (M:Int) (X:ByteArray),s11 = .string X∧Ly w g k m t D wx∧Blk wx c [.string p,.int .i64 M,.int .u32 ((if k=1 then xw D else 0:Nat):Int),.int .i64 (X.size:Nat),.int .i64 (D.size:Nat),.int .i64 k,.int .i64 m,.int .u32 ((if k=1 then t else 2162688:Nat):Int),.int .i64 0] 26∧(M=0∨M=8)∧Hid (k=1→(M=0∧X=D)∨(M=8∧X.size<D.size∧BackP D X))∧Hid (k≠1→M=0∧X=⟨#[]⟩))
 case first =>
  by_cases h2:k=1
  · subst h2
    go_upto_region 9 with fail
    refine wp_region_held_drew (S:=fun w'=>Ly w g 1 m t D w'∧Upd [c] w3 w') (by kernel_rfl) ⟨S.out.drew,(Upd.refl _ _).drew⟩ (fun hHeld=>hdN ?_)
    refine hdT 0 (some 35) ?_; refine hdT 1 (some 36) ?_ (hy:=by intro w0 hSw; have q0:=hSw.1.2.1.cell 2 rfl; go_simp; try with_reducible rfl)
    refine hdT 2 (some 37) ?_; refine hdT 4 (some 39) ?_; refine hdT 5 (some 40) ?_; refine hdT 6 (some 41) ?_
    refine hdO 3 (fun K hK=>?_)
    go_simp
    refine (HSU.out _).mono ?_
    rintro e z1 ⟨rfl,hz1⟩
    have hC1:=(show Blk w3.drew c [.string p,.int .i64 0,.int .u32 0,.int .i64 0,.int .i64 0,.int .i64 1,.int .i64 m,.int .u32 2162688,.int .i64 0] 26 from HC.out.drew).upd hz1 (by simp)
    have c7:=hC1.cell 7 rfl
    have c2:=hC1.cell 2 rfl
    have c4:=hC1.cell 4 rfl
    have fA:=hC1.frz
    go_wp2
    refine hK.out _ _ ⟨hHeld.1.upd hz1 (by simp),hHeld.2.trans hz1 (by simp)⟩ (fun hHeld=>hdN ?_)
    clear hK K
    refine hdO 7 (fun K hK=>?_)
    go_simp
    go_wp2
    refine hK.out _ _ ⟨hHeld.1.upd ((Upd.refl [c] _).setCell (.inl (by simp)) _) (by simp; omega),hHeld.2.setCell (.inl (by simp)) _⟩ (fun hHeld=>hdN ?_)
    clear hK K
    refine hdT 8 (some 42) ?_
    refine hdO 9 (fun K hK=>?_)
    go_simp
    go_wp2
    refine hK.out _ _ ⟨hHeld.1.upd ((Upd.refl [c] _).setCell (.inl (by simp)) _) (by simp; omega),hHeld.2.setCell (.inl (by simp)) _⟩ (fun hHeld=>hdN ?_)
    clear hK K
    refine hdT 10 (some 43) ?_
    refine hdO 11 (fun K hK=>?_)
    go_simp
    go_wp2
    refine hK.out _ _ ⟨hHeld.1.upd ((Upd.refl [c] _).setCell (.inl (by simp)) _) (by simp; omega),hHeld.2.setCell (.inl (by simp)) _⟩ (fun hHeld=>hdN ?_)
    clear hK K
    refine wpAnyH_done (by kernel_rfl) ?_ 0
    have HC:=Lib.hid (((hC1.set 7 (.int .u32 (t:Nat))).set 2 (.int .u32 (xw D:Nat))).set 4 (.int .i64 (D.size:Nat)))
    have S:=Lib.hid hHeld.1
    clear hHeld hC1 c7 c2 c4 fA hz1
    generalize ((z1.setCell ⟨c,7,none⟩ (.int .u32 (t:Nat))).setCell ⟨c,2,none⟩ (.int .u32 (xw D:Nat))).setCell ⟨c,4,none⟩ (.int .i64 (D.size:Nat))=w4 at *
    go_wp2_with fail
    refine (HDF.out _).mono ?_
    rintro e w5 ⟨X,rfl,hX,hu⟩
    have HX:=Lib.hid hX
    have S:=Lib.hid (S.out.upd hu (by simp))
    have HC:=Lib.hid (HC.out.upd hu (by simp))
    clear hu hX HDF
    have fA:=HC.out.frz
    have cA:=HC.out.all
    by_cases hx:X.size<D.size
    · have hx2:(X.size:Int)<(D.size:Int):=by omega
      have HC2:=Lib.hid ((HC.out.set 1 (.int .i64 8)).set 3 (.int .i64 (X.size:Nat)))
      have S2:=Lib.hid (S.out.upd (((Upd.refl [c] w5).setCell (p:=⟨c,1,none⟩) (.inl (by simp)) (.int .i64 8)).setCell (p:=⟨c,3,none⟩) (.inl (by simp)) (.int .i64 (X.size:Nat))) (by simp; omega))
      go_wp2
      go_meet
      exact ⟨8,X,rfl,S2.out,HC2.out,.inr rfl,Lib.hid (fun _ => .inr ⟨rfl,hx,HX.out hx⟩),Lib.hid (fun h=>absurd rfl h)⟩
    · have hx2 : ¬ (X.size:Int)<(D.size:Int):=by omega
      have HC2:=Lib.hid (HC.out.set 3 (.int .i64 (D.size:Nat)))
      have S2:=Lib.hid (S.out.upd ((Upd.refl [c] w5).setCell (p:=⟨c,3,none⟩) (.inl (by simp)) (.int .i64 (D.size:Nat))) (by simp; omega))
      go_wp2
      go_meet
      exact ⟨0,D,rfl,S2.out,HC2.out,.inl rfl,Lib.hid (fun _ => .inl ⟨rfl,rfl⟩),Lib.hid (fun h=>absurd rfl h)⟩
  · have e1:(k==1)=false:=by rw [beq_eq_false_iff_ne]; exact h2
    obtain ⟨d1,d2⟩:=q2.out (by omega)
    go_wp2
    go_meet
    refine ⟨0,⟨#[]⟩,by rw [d1],S.out,?_,.inl rfl,Lib.hid (fun h=>absurd h h2),Lib.hid (fun _=>⟨rfl,rfl⟩)⟩
    rw [if_neg h2,if_neg h2,d1]
    exact HC.out
 case rest =>
 obtain ⟨M,X,rfl,hS,hC,hM,hf,hd⟩:=hcut
 clear S HC HSU HDF q2 q4
 have S:=Lib.hid hS
 have HC:=Lib.hid hC
 have HRE:=Lib.hid (HLR.out M X hM hf.out hd.out)
 have HLA:=Lib.hid (fun h=>HMK.out h M X hM hf.out hd.out)
 have hxs:X.size≤65000:=by
  by_cases hk:k=1
  · rcases hf.out hk with ⟨_,rfl⟩ | ⟨_,h,_⟩<;>omega
  · rw [(hd.out hk).2]; decide
 have hsu:(if k=1 then xw D else 0)<4294967296:=by have:=zaO D; split<;>omega
 have htt:(if k=1 then t else 2162688)<4294967296:=by split<;>omega
 clear hS hC hM hf hd HLR HMK
 generalize (if k=1 then xw D else 0)=su at *
 generalize (if k=1 then t else 2162688)=tt at *
 have hfit:RecD.Fits ⟨p,M,su,X.size,D.size,k,m,tt,0⟩:=⟨by dsimp only; omega,hsu,htt⟩
 have HRR:=Lib.hid (fun z=>JX ⟨p,M,su,X.size,D.size,k,m,tt,0⟩ z hfit)
 have HLW:=Lib.hid (fun z=>VX ⟨p,M,su,X.size,D.size,k,m,tt,0⟩ z hfit)
 rw [HRE.out] at HRR
 unfold RecD.v at HRR HLW
 dsimp only at HRR HLW
 have cA:=HC.out.all
 go_wp2_with fail
 refine (HRR.out _).mono ?_
 rintro e w5 ⟨rfl,hu⟩
 have S:=Lib.hid (S.out.upd hu (by simp))
 have HC:=Lib.hid (HC.out.upd hu (by simp))
 clear hu cA HRR
 by_cases h3:WY=0
 rotate_left
 · have e1:(((WY:Nat):Int) != 0)=true:=by rw [bne_iff_ne]; omega
   have qA:=S.out.2.2.1.all
   have fA:=S.out.2.2.1.frz
   go_wp2_with fail
   (try simp only [Exit.inBlock,Exit.then]); refine bodyPost_ret (jY rfl _ _ (g+1) _ _ _ _ _ _ _ _ _ rfl (Blk.set9 S.out.2.2.1 _ _ _ _ _ _ _ _ _)) rfl ⟨qX,⟨#[]⟩,rfl,LayP.bad HWQ.out h3,Upd.set9 S.out.2.2.2 (.inr (by have:=S.out.1; omega)) _ _ _ _ _ _ _ _ _⟩
 have HLB:=Lib.hid (HLA.out h3)
 clear HLA
 subst h3
 have hwr:Kv ⟨p,M,su,X.size,D.size,k,m,tt,0⟩=zB ⟨p,M,su,X.size,D.size,k,m,tt,0⟩:=if_pos HRE.out
 rw [hwr] at HLW
 have hhz:(zf (zB ⟨p,M,su,X.size,D.size,k,m,tt,0⟩)).size≤1000000:=by have:=xW k p; rw [zu,yE]; dsimp only; omega
 obtain ⟨HS,hHS⟩ : ∃ HS,zf (zB ⟨p,M,su,X.size,D.size,k,m,tt,0⟩)=HS:=⟨_,rfl⟩
 rw [hHS] at HLW hhz
 have HHS:=Lib.hid hHS
 have HAD:=Lib.hid (fun w=>run_string_add_sum (P:=Tryz.prog) w HS X (by omega))
 clear hwr hHS HRE
 go_upto_region 17 with fail
 refine wp_region_held_drew (S:=fun w'=>Blk w' c [.string p,.int .i64 M,.int .u32 (su:Nat),.int .i64 (X.size:Nat),.int .i64 (D.size:Nat),.int .i64 k,.int .i64 m,.int .u32 (tt:Nat),.int .i64 0] 26∧Upd [g+1] w5 w') (by kernel_rfl) ⟨HC.out.drew,(Upd.refl _ _).drew⟩ (fun hHeld=>hdN ?_)
 refine hdT 0 (some 63) ?_ (hy:=by intro w0 hSw; have cA:=hSw.1.all; go_simp; try with_reducible rfl)
 refine hdT 1 (some 64) ?_ (hy:=by intro w0 hSw; have cA:=hSw.1.all; go_simp; try with_reducible rfl); refine hdT 3 (some 66) ?_
 refine hdO 2 (fun K hK=>?_)
 go_simp
 refine (HLW.out _).mono ?_
 rintro e z1 ⟨rfl,hz1⟩
 have hQ1:=(show Blk w5.drew (g+1) [.string .empty,.int .i64 0,.int .u32 0,.int .i64 0,.int .i64 0,.int .i64 0,.int .i64 0,.int .u32 0,.int .i64 0] 26 from S.out.2.2.1.drew).upd hz1 (by simp)
 have qA:=hQ1.all
 have fA:=hQ1.frz
 go_wp2
 refine hK.out _ _ ⟨hHeld.1.upd hz1 (by simp),hHeld.2.trans hz1 (by simp)⟩ (fun hHeld=>hdN ?_)
 clear hK K
 refine hdT 4 (some 67) ?_ (hy:=by intro w0 hSw; clear hSw; go_simp; all_goals omega) (v := .string (HS++X))
 refine hdO 5 (fun K hK=>?_)
 go_simp
 go_wp2
 refine hK.out _ _ ⟨Blk.far9 hHeld.1 (by omega) _ _ _ _ _ _ _ _ _,Upd.set9 hHeld.2 (.inl (by simp)) _ _ _ _ _ _ _ _ _⟩ (fun hHeld=>hdN ?_)
 clear hK K
 refine hdT 6 (some 7) ?_; refine hdT 7 (some 8) ?_
 refine wpAnyH_done (by kernel_rfl) ?_ 0
 go_wp2_with fail
 (try simp only [Exit.inBlock,Exit.then]); refine bodyPost_ret (jY rfl _ _ (g+1) _ _ _ _ _ _ _ _ _ rfl (Blk.set9 hQ1 _ _ _ _ _ _ _ _ _)) rfl ⟨⟨p,M,su,X.size,D.size,k,m,tt,0⟩,HS++X,rfl,⟨fun h=>absurd HWQ.out h,fun _=>⟨X,HLB.out,by rw [HHS.out]⟩⟩,S.out.2.2.2.trans hHeld.2 (fun j hj => .inr (by have:=S.out.1; simp at hj; omega))⟩
end Go.Proofs.YtfkcdnaghndgfaaGreatDoor
namespace Go.Proofs.YtfkcdnaghndgfaaGreatDoor
open Go.RowKit
def Zv (s:ByteArray) (r:RecD):Int×Int×Nat×ByteArray×Nat :=
 if (qU s r).2.2≠0 then (0,0,0,⟨#[]⟩,(qU s r).2.2) else (r.k,r.md,if r.k=1 then r.t else 0,(qU s r).1,0)
def zga (x:Int×Int×Nat×ByteArray×Nat):Value := .tuple #[Qe x.1 x.2.1 x.2.2.1 x.2.2.2.1,.int .i64 (x.2.2.2.2:Nat)]
theorem YS (r:RecD) (A Y:ByteArray) (hf:r.Fits) (hr:yu r=0) :
 zy (A++(zf (zB r)++Y)) (A.size:Nat)=(⟨r.p,r.m,r.sum,r.l,r.wh,r.k,0,r.t,A.size⟩,30+(zt r.k r.p).length,false,0):=by
 have hb:zc ((A++(zf (zB r)++Y)).extract A.size (A++(zf (zB r)++Y)).size)=zB r++zc Y:=by
  rw [zF,zI,zI,zv _ (vI r)]
  rw [List.drop_left' (by rw [zd]),List.take_of_length_le]
  simp only [List.length_append,zd,ByteArray.size_append,zu]; omega
 unfold zy
 rw [if_neg (by simp only [ByteArray.size_append]; omega)]
 exact Yp r _ (zc Y) A.size hf hr hb
theorem Vl {p:ByteArray} {k m:Int} {t:Nat} {D:ByteArray} {r:RecD} {X:ByteArray} (h:LaidE p k m t D r X) (A B:ByteArray) (c:Nat) (hc:c≠r.sum) :
 (qU (A++(zf (zB r)++X)++B) ⟨r.p,r.m,c,r.l,r.wh,r.k,r.md,r.t,(A.size:Nat)⟩).2.2≠0:=by
 have e:A++(zf (zB r)++X)++B=A++(zf (zB r)++(X++B)):=by simp only [ByteArray.append_assoc]
 have hrd:=YS r A (X++B) h.fits h.right
 rw [e]
 unfold qU
 by_cases h1:yu ⟨r.p,r.m,c,r.l,r.wh,r.k,r.md,r.t,(A.size:Nat)⟩=0
 · rw [if_neg (by simp [h1])]
   rw [show (⟨r.p,r.m,c,r.l,r.wh,r.k,r.md,r.t,(A.size:Nat)⟩:RecD).pos=(A.size:Nat) from rfl,hrd]
   dsimp only
   rw [if_neg (by simp),if_neg (by simp [vQ])]
   have ht:qn (A++(zf (zB r)++(X++B))) ⟨r.p,r.m,r.sum,r.l,r.wh,r.k,0,r.t,A.size⟩ ⟨r.p,r.m,c,r.l,r.wh,r.k,r.md,r.t,(A.size:Nat)⟩ ((A.size:Nat)+((30+(zt r.k r.p).length:Nat):Int)) false=(0,2):=by
    unfold qn
    rw [if_neg (by simp),if_pos (.inl (by dsimp only; omega))]
   rw [ht]
   simp
 · rw [if_pos h1]
   simp
theorem zhc {p:ByteArray} {k m:Int} {t:Nat} {D:ByteArray} {r:RecD} {X:ByteArray} (h:LaidE p k m t D r X) (A:ByteArray) (hA:A.size<2147483648) :
 qU (A++(zf (zB r)++X).extract 0 ((zf (zB r)++X).size-1)) (r.to A.size)=(⟨#[]⟩,0,3):=by
 have hr:=RecD.to_right h.right hA
 have hl:(r.to A.size).l=(X.size:Nat):=h.hl
 have hsz:(zf (zB r)++X).size=30+(zt r.k r.p).length+X.size:=by rw [ByteArray.size_append,zu,yE]
 by_cases hX:X.size=0
 · have hX0:zc X=[]:=List.eq_nil_of_length_eq_zero (by rw [zd]; omega)
   have hrd:zy (A++(zf (zB r)++X).extract 0 ((zf (zB r)++X).size-1)) (A.size:Nat)=(qX,0,false,3):=by
    unfold zy
    rw [if_neg (by simp only [ByteArray.size_append]; omega)]
    refine zdC r _ _ h.fits h.right ?_
    rw [zF,zI,List.drop_left' (by rw [zd]; rfl),List.take_of_length_le (by simp only [zd,ByteArray.size_append]; omega)]
    rw [zF,List.drop_zero,zI,zv _ (vI r),hX0,List.append_nil,hsz,hX]
    rw [List.dropLast_eq_take,yE]
    rfl
   unfold qU
   rw [if_neg (by rw [hr]; simp),show (r.to A.size).pos=(A.size:Nat) from rfl,hrd]
   dsimp only
   rw [if_pos (by simp)]
 · obtain ⟨Y,hY,hYs⟩ : ∃ Y:ByteArray,(zf (zB r)++X).extract 0 ((zf (zB r)++X).size-1)=zf (zB r)++Y∧Y.size=X.size-1:=by
    refine ⟨X.extract 0 (X.size-1),?_,by rw [ByteArray.size_extract]; omega⟩
    have e:zc ((zf (zB r)++X).extract 0 ((zf (zB r)++X).size-1))=zc (zf (zB r)++X.extract 0 (X.size-1)):=by
     rw [zF,List.drop_zero,zI,zI,zF,List.drop_zero,hsz]
     rw [List.take_append,List.take_of_length_le (by rw [zd,zu,yE]; omega),zd,zu,yE]
     congr 2
     omega
    have e2:=congrArg zf e
    rw [zx,zx] at e2
    exact e2
   have hrd:=YS r A Y h.fits h.right
   rw [hY]
   unfold qU
   rw [if_neg (by rw [hr]; simp),show (r.to A.size).pos=(A.size:Nat) from rfl,hrd]
   dsimp only
   rw [if_neg (by simp),if_neg (by simp [vQ,RecD.to])]
   have ht:qn (A++(zf (zB r)++Y)) ⟨r.p,r.m,r.sum,r.l,r.wh,r.k,0,r.t,A.size⟩ (r.to A.size) ((A.size:Nat)+((30+(zt r.k r.p).length:Nat):Int)) false=(0,0):=by
    unfold qn
    rw [if_neg (by simp),if_neg (by simp [RecD.to])]
   rw [ht]
   dsimp only
   rw [if_neg (by simp),if_pos (by rw [hl]; simp only [ByteArray.size_append,zu,yE]; omega)]
end Go.Proofs.YtfkcdnaghndgfaaGreatDoor
