/- Packages entry and swingleref22: Size, Most, Moved, Node, Why: walks. -/
import Derived.Deep.CutBlock
import Derived.Test.YtfkcdnaghndgfaaGreatDoorQAT
import Derived.Test.YtfkcdnaghndgfaaGreatDoorQAX
import Derived.Test.YtfkcdnaghndgfaaGreatDoorQAQ
import Derived.Test.YtfkcdnaghndgfaaGreatDoorQAU
import Derived.Test.YtfkcdnaghndgfaaGreatDoorQAP
import Derived.Test.YtfkcdnaghndgfaaGreatDoorQAV
import Derived.Test.YtfkcdnaghndgfaaGreatDoorQAR
import Derived.Test.YtfkcdnaghndgfaaGreatDoorQAO
import Derived.Maps.OwnOps
import Derived.Maps.Views
import Derived.Maps.OwnSet
import Derived.Test.YtfkcdnaghndgfaaGreatDoorQAA
set_option linter.unusedVariables false
set_option linter.unusedSimpArgs false
set_option linter.unusedSectionVars false
namespace Go.Proofs.YtfkcdnaghndgfaaGreatDoor
open Go.RowKit
theorem zbx {fn:Func} {p:Tmp} (h:fn.results = #[.cell p 26]) (tmps:Array Value) (w:World) (g:Nat) (c0 c1 c2 c3 c4 c5 c6 c7 c8:Value) (hp:tmps.getD p undef = .pointer (some ⟨g,0,none⟩)) (hB:Blk w g [c0,c1,c2,c3,c4,c5,c6,c7,c8] 26) :
 (results fn tmps).run Tryz.prog w = .ok (.agg #[c0,c1,c2,c3,c4,c5,c6,c7,c8]) w:=by
 have hA:=hB.all
 have hp2:tmps[p]?.getD undef = .pointer (some ⟨g,0,none⟩):=by rw [← hp]; simp
 simp [results,h,go_sem,hp2,hA]
theorem JU {fn:Func} {p t:Tmp} (h:fn.results = #[.cell p 24,.tmp t]) (tmps:Array Value) (w:World) (g:Nat) (c0 c1 c2 c3:Value) (hp:tmps.getD p undef = .pointer (some ⟨g,0,none⟩)) (hB:Blk w g [c0,c1,c2,c3] 24) :
 (results fn tmps).run Tryz.prog w = .ok (.tuple #[.agg #[c0,c1,c2,c3],tmps.getD t undef]) w:=by
 have hA:=hB.all
 have hp2:tmps[p]?.getD undef = .pointer (some ⟨g,0,none⟩):=by rw [← hp]; simp
 simp [results,h,go_sem,hp2,hA]
theorem Blk.set4 {w:World} {b:Nat} {a0 a1 a2 a3:Value} {t:TypeId} (h:Blk w b [a0,a1,a2,a3] t) (v0 v1 v2 v3:Value) :
 Blk ((((w.setCell ⟨b,0,none⟩ v0).setCell ⟨b,1,none⟩ v1).setCell ⟨b,2,none⟩ v2).setCell ⟨b,3,none⟩ v3) b [v0,v1,v2,v3] t:=(((h.set 0 v0).set 1 v1).set 2 v2).set 3 v3
theorem Upd.set4 {fp:List Nat} {w0 w:World} {b:Nat} (h:Upd fp w0 w) (hb:b∈fp∨w0.heap.size≤b) (v0 v1 v2 v3:Value) :
 Upd fp w0 ((((w.setCell ⟨b,0,none⟩ v0).setCell ⟨b,1,none⟩ v1).setCell ⟨b,2,none⟩ v2).setCell ⟨b,3,none⟩ v3):=(((h.setCell hb v0).setCell hb v1).setCell hb v2).setCell hb v3
set_option maxRecDepth 100000 in
theorem zeS (r:RecD) (w:World) (h:r.Fits) (hl:0≤r.l∧r.l<2147483648) :
 Calls Tryz.prog 13 #[r.v] w fun e w'=>e = .returned (.int .i64 ((30+(zt r.k r.p).length:Nat)+r.l))∧Upd [] w w':=by
 have hz:=xW r.k r.p
 have hp:=h.p
 have HS:=Lib.hid (fun z=>zb4 r z h)
 have HW:Hid (IntKind.i64.wrap (((30+(zt r.k r.p).length:Nat):Int)+r.l)=((30+(zt r.k r.p).length:Nat):Int)+r.l):=Lib.hid (IntWalk.i64_in _ (by omega))
 generalize 30+(zt r.k r.p).length=n at *
 obtain ⟨p,m,sum,l,wh,k,md,t,pos⟩:=r
 unfold RecD.v at HS ⊢
 dsimp only at HS HW hl ⊢
 have HB:=Lib.hid (Blk.new w [.string p,.int .i64 m,.int .u32 (sum:Nat),.int .i64 l,.int .i64 wh,.int .i64 k,.int .i64 md,.int .u32 (t:Nat),.int .i64 pos] 26)
 have HU:=Lib.hid ((Upd.refl [] w).alloc (.cells #[.string p,.int .i64 m,.int .u32 (sum:Nat),.int .i64 l,.int .i64 wh,.int .i64 k,.int .i64 md,.int .u32 (t:Nat),.int .i64 pos] 26))
 go_enter Tryz.func13,Tryz.ntmps13
 go_upto_region 1 with fail
 change Code.wp _ _ _ _ (w.alloc (.cells #[.string p,.int .i64 m,.int .u32 (sum:Nat),.int .i64 l,.int .i64 wh,.int .i64 k,.int .i64 md,.int .u32 (t:Nat),.int .i64 pos] 26))
 generalize w.alloc (.cells #[.string p,.int .i64 m,.int .u32 (sum:Nat),.int .i64 l,.int .i64 wh,.int .i64 k,.int .i64 md,.int .u32 (t:Nat),.int .i64 pos] 26)=w1 at *
 generalize w.heap.size=g at *
 refine wp_region_held_drew (S:=fun w'=>Blk w' g [.string p,.int .i64 m,.int .u32 (sum:Nat),.int .i64 l,.int .i64 wh,.int .i64 k,.int .i64 md,.int .u32 (t:Nat),.int .i64 pos] 26∧Upd [] w w') (by kernel_rfl) ⟨HB.out.drew,HU.out.drew⟩ (fun hHeld=>hdN ?_)
 refine hdT 0 (some 3) ?_ (hy:=by intro w0 hSw; have cA:=hSw.1.all; go_simp; try with_reducible rfl); refine hdT 2 (some 5) ?_
 refine hdT 3 (some 6) ?_ (hy:=by intro w0 hSw; have cA:=hSw.1.all; go_simp; try with_reducible rfl)
 refine hdO 1 (fun K hK=>?_)
 go_simp
 refine (HS.out _).mono ?_
 rintro e z1 ⟨rfl,hz1⟩
 go_wp2
 refine hK.out _ _ ⟨hHeld.1.upd hz1 (by simp),hHeld.2.then hz1⟩ (fun hHeld=>hdN ?_)
 clear hK K
 refine hdT 4 (some 7) ?_ (hy:=by intro w0 hSw; clear hSw; go_simp; all_goals rw [HW.out]) (v := .int .i64 ((n:Nat)+l)); refine hdT 5 (some 2) ?_
 refine wpAnyH_done (by kernel_rfl) ?_ 0
 go_wp2
 go_returns
 exact ⟨rfl,hHeld.2⟩
set_option maxRecDepth 100000 in
theorem zbg (r:RecD) (a:Int) (w:World) :
 Calls Tryz.prog 17 #[r.v,.int .i64 a] w fun e w'=>e = .returned (r.to a).v∧Upd [] w w':=by
 obtain ⟨p,m,sum,l,wh,k,md,t,pos⟩:=r
 unfold RecD.to RecD.v
 dsimp only
 have HB:Hid (Blk ((w.alloc (.cells #[.string p,.int .i64 m,.int .u32 (sum:Nat),.int .i64 l,.int .i64 wh,.int .i64 k,.int .i64 md,.int .u32 (t:Nat),.int .i64 pos] 26)).alloc (.cells #[.string .empty,.int .i64 0,.int .u32 0,.int .i64 0,.int .i64 0,.int .i64 0,.int .i64 0,.int .u32 0,.int .i64 0] 26)) w.heap.size [.string p,.int .i64 m,.int .u32 (sum:Nat),.int .i64 l,.int .i64 wh,.int .i64 k,.int .i64 md,.int .u32 (t:Nat),.int .i64 pos] 26):=Lib.hid ((Blk.new w [.string p,.int .i64 m,.int .u32 (sum:Nat),.int .i64 l,.int .i64 wh,.int .i64 k,.int .i64 md,.int .u32 (t:Nat),.int .i64 pos] 26).alloc _)
 have HQ:Hid (Blk ((w.alloc (.cells #[.string p,.int .i64 m,.int .u32 (sum:Nat),.int .i64 l,.int .i64 wh,.int .i64 k,.int .i64 md,.int .u32 (t:Nat),.int .i64 pos] 26)).alloc (.cells #[.string .empty,.int .i64 0,.int .u32 0,.int .i64 0,.int .i64 0,.int .i64 0,.int .i64 0,.int .u32 0,.int .i64 0] 26)) (w.heap.size+1) [.string .empty,.int .i64 0,.int .u32 0,.int .i64 0,.int .i64 0,.int .i64 0,.int .i64 0,.int .u32 0,.int .i64 0] 26):=Lib.hid (by have h:=Blk.new (w.alloc (.cells #[.string p,.int .i64 m,.int .u32 (sum:Nat),.int .i64 l,.int .i64 wh,.int .i64 k,.int .i64 md,.int .u32 (t:Nat),.int .i64 pos] 26)) [.string .empty,.int .i64 0,.int .u32 0,.int .i64 0,.int .i64 0,.int .i64 0,.int .i64 0,.int .u32 0,.int .i64 0] 26; simpa using h)
 have HU:=Lib.hid (((Upd.refl [] w).alloc (.cells #[.string p,.int .i64 m,.int .u32 (sum:Nat),.int .i64 l,.int .i64 wh,.int .i64 k,.int .i64 md,.int .u32 (t:Nat),.int .i64 pos] 26)).alloc (.cells #[.string .empty,.int .i64 0,.int .u32 0,.int .i64 0,.int .i64 0,.int .i64 0,.int .i64 0,.int .u32 0,.int .i64 0] 26))
 go_enter Tryz.func17,Tryz.ntmps17
 go_upto_region 1 with fail
 change Code.wp _ _ _ _ ((w.alloc (.cells #[.string p,.int .i64 m,.int .u32 (sum:Nat),.int .i64 l,.int .i64 wh,.int .i64 k,.int .i64 md,.int .u32 (t:Nat),.int .i64 pos] 26)).alloc (.cells #[.string .empty,.int .i64 0,.int .u32 0,.int .i64 0,.int .i64 0,.int .i64 0,.int .i64 0,.int .u32 0,.int .i64 0] 26))
 have hg:w.heap.size≤w.heap.size:=Nat.le_refl _
 generalize (w.alloc (.cells #[.string p,.int .i64 m,.int .u32 (sum:Nat),.int .i64 l,.int .i64 wh,.int .i64 k,.int .i64 md,.int .u32 (t:Nat),.int .i64 pos] 26)).alloc (.cells #[.string .empty,.int .i64 0,.int .u32 0,.int .i64 0,.int .i64 0,.int .i64 0,.int .i64 0,.int .u32 0,.int .i64 0] 26)=w1 at *
 generalize hge:w.heap.size=g at *
 have cA:=HB.out.all
 have fA:=HB.out.frz
 have HB2:=Lib.hid (HB.out.set 8 (.int .i64 a))
 have HQ2:=Lib.hid (HQ.out.setFar (a:=⟨g,8,none⟩) (.int .i64 a) (by simp))
 have HU2:=Lib.hid (HU.out.setCell (p:=⟨g,8,none⟩) (.inr (by rw [hge]; exact Nat.le_refl _)) (.int .i64 a))
 go_upto_region 2 with fail
 clear cA fA
 generalize w1.setCell ⟨g,8,none⟩ (.int .i64 a)=w2 at *
 have cA:=HB2.out.all
 have qA:=HQ2.out.all
 have fA:=HQ2.out.frz
 go_wp2_with fail
 (try simp only [Exit.inBlock,Exit.then]); refine bodyPost_ret (zbx rfl _ _ (g+1) _ _ _ _ _ _ _ _ _ rfl (Blk.set9 HQ2.out _ _ _ _ _ _ _ _ _)) rfl ⟨rfl,Upd.set9 HU2.out (.inr (by omega)) _ _ _ _ _ _ _ _ _⟩
def Nd2 (w0:World) (g:Nat) (p:ByteArray) (m:Int) (sum:Nat) (l wh k md:Int) (t:Nat) (pos:Int) (w:World):Prop:=w0.heap.size≤g∧Blk w g [.string p,.int .i64 m,.int .u32 (sum:Nat),.int .i64 l,.int .i64 wh,.int .i64 k,.int .i64 md,.int .u32 (t:Nat),.int .i64 pos] 26∧Blk w (g+1) [.int .i64 0,.int .i64 0,.int .u32 0,.string .empty] 24∧Upd [] w0 w
theorem Nd2.upd {w0 w w':World} {g:Nat} {p:ByteArray} {m:Int} {sum:Nat} {l wh k md:Int} {t:Nat} {pos:Int} {fp:List Nat} (h:Nd2 w0 g p m sum l wh k md t pos w) (hu:Upd fp w w') (hf : ∀ j,j∈fp→g+1<j):Nd2 w0 g p m sum l wh k md t pos w' :=
 ⟨h.1,h.2.1.upd hu (fun hm=>by have:=hf _ hm; omega),h.2.2.1.upd hu (fun hm=>by have:=hf _ hm; omega),h.2.2.2.trans hu (fun j hj => .inr (by have:=hf j hj; have:=h.1; omega))⟩
set_option maxRecDepth 100000 in
set_option maxHeartbeats 3200000 in
theorem QB (s:ByteArray) (r:RecD) (w:World) (hs:s.size≤1000000) (hr:r.Fits) :
 Calls Tryz.prog 16 #[.string s,r.v] w fun e w'=>e = .returned (zga (Zv s r))∧Upd [] w w':=by
 have HD0:=fun z=>WF s r z hs hr
 have HQ:Hid (Zv s r=if (qU s r).2.2≠0 then (0,0,0,⟨#[]⟩,(qU s r).2.2) else (r.k,r.md,if r.k=1 then r.t else 0,(qU s r).1,0)):=Lib.hid rfl
 unfold zf1 at HD0
 generalize Zv s r=NQ at *
 generalize qU s r=DP at *
 obtain ⟨D,n,c⟩:=DP
 obtain ⟨p,m,sum,l,wh,k,md,t,pos⟩:=r
 unfold RecD.v at HD0 ⊢
 dsimp only at HD0 HQ ⊢
 have HD:=Lib.hid HD0
 clear HD0
 have S:Hid (Nd2 w w.heap.size p m sum l wh k md t pos ((w.alloc (.cells #[.string p,.int .i64 m,.int .u32 (sum:Nat),.int .i64 l,.int .i64 wh,.int .i64 k,.int .i64 md,.int .u32 (t:Nat),.int .i64 pos] 26)).alloc (.cells #[.int .i64 0,.int .i64 0,.int .u32 0,.string .empty] 24))):=Lib.hid ⟨Nat.le_refl _,(Blk.new w [.string p,.int .i64 m,.int .u32 (sum:Nat),.int .i64 l,.int .i64 wh,.int .i64 k,.int .i64 md,.int .u32 (t:Nat),.int .i64 pos] 26).alloc _,by have h:=Blk.new (w.alloc (.cells #[.string p,.int .i64 m,.int .u32 (sum:Nat),.int .i64 l,.int .i64 wh,.int .i64 k,.int .i64 md,.int .u32 (t:Nat),.int .i64 pos] 26)) [.int .i64 0,.int .i64 0,.int .u32 0,.string .empty] 24; simpa using h,((Upd.refl [] w).alloc _).alloc _⟩
 go_enter Tryz.func16,Tryz.ntmps16
 go_upto_region 1 with fail
 change Code.wp _ _ _ _ ((w.alloc (.cells #[.string p,.int .i64 m,.int .u32 (sum:Nat),.int .i64 l,.int .i64 wh,.int .i64 k,.int .i64 md,.int .u32 (t:Nat),.int .i64 pos] 26)).alloc (.cells #[.int .i64 0,.int .i64 0,.int .u32 0,.string .empty] 24))
 generalize (w.alloc (.cells #[.string p,.int .i64 m,.int .u32 (sum:Nat),.int .i64 l,.int .i64 wh,.int .i64 k,.int .i64 md,.int .u32 (t:Nat),.int .i64 pos] 26)).alloc (.cells #[.int .i64 0,.int .i64 0,.int .u32 0,.string .empty] 24)=w1 at *
 generalize w.heap.size=g at *
 have cA:=S.out.2.1.all
 go_wp2_with fail
 refine (HD.out _).mono ?_
 rintro e w2 ⟨rfl,hu⟩
 have S:=Lib.hid (S.out.upd hu (by simp))
 clear hu cA HD
 have cA:=S.out.2.1.all
 by_cases h0:c=0
 rotate_left
 · have e1:(((c:Nat):Int) != 0)=true:=by rw [bne_iff_ne]; omega
   have HV:=Lib.hid (HQ.out.trans (if_pos h0))
   clear h0
   have qA:=S.out.2.2.1.all
   have fA:=S.out.2.2.1.frz
   go_wp2_with fail
   (try simp only [Exit.inBlock,Exit.then]); refine bodyPost_ret (JU rfl _ _ (g+1) _ _ _ _ rfl (Blk.set4 S.out.2.2.1 _ _ _ _)) rfl ⟨by rw [HV.out]; rfl,Upd.set4 S.out.2.2.2 (.inr (by have:=S.out.1; omega)) _ _ _ _⟩
 have HV:=Lib.hid (HQ.out.trans (if_neg (by simp [h0])))
 subst h0
 clear HQ
 have HC:=Lib.hid (Blk.new w2 [.int .i64 k,.int .i64 md,.int .u32 0,.string D] 24)
 have hgc:g+1<w2.heap.size:=Blk.lt S.out.2.2.1
 have S:=Lib.hid (S.out.upd ((Upd.refl [] w2).alloc (.cells #[.int .i64 k,.int .i64 md,.int .u32 0,.string D] 24)) (by simp))
 go_upto_region 5 with fail
 change Code.wp _ _ _ _ (w2.alloc (.cells #[.int .i64 k,.int .i64 md,.int .u32 0,.string D] 24))
 clear cA
 generalize w2.alloc (.cells #[.int .i64 k,.int .i64 md,.int .u32 0,.string D] 24)=w3 at *
 generalize w2.heap.size=c at *
 have cA:=S.out.2.1.all
 have dA:=HC.out.all
 have eA:=HC.out.frz
 by_cases h1:k=1
 · subst h1
   have HC2:=Lib.hid (HC.out.set 2 (.int .u32 (t:Nat)))
   have S2:=Lib.hid (S.out.upd ((Upd.refl [c] w3).setCell (p:=⟨c,2,none⟩) (.inl (by simp)) (.int .u32 (t:Nat))) (by simp; omega))
   go_upto_region 7 with fail
   clear cA dA eA
   generalize w3.setCell ⟨c,2,none⟩ (.int .u32 (t:Nat))=w4 at *
   have dA:=HC2.out.all
   have qA:=S2.out.2.2.1.all
   have fA:=S2.out.2.2.1.frz
   go_wp2_with fail
   (try simp only [Exit.inBlock,Exit.then]); refine bodyPost_ret (JU rfl _ _ (g+1) _ _ _ _ rfl (Blk.set4 S2.out.2.2.1 _ _ _ _)) rfl ⟨by rw [HV.out]; rfl,Upd.set4 S2.out.2.2.2 (.inr (by have:=S2.out.1; omega)) _ _ _ _⟩
 · have e1:(k==1)=false:=by rw [beq_eq_false_iff_ne]; exact h1
   have qA:=S.out.2.2.1.all
   have fA:=S.out.2.2.1.frz
   go_wp2_with fail
   (try simp only [Exit.inBlock,Exit.then]); refine bodyPost_ret (JU rfl _ _ (g+1) _ _ _ _ rfl (Blk.set4 S.out.2.2.1 _ _ _ _)) rfl ⟨by rw [HV.out,if_neg h1]; rfl,Upd.set4 S.out.2.2.2 (.inr (by have:=S.out.1; omega)) _ _ _ _⟩
end Go.Proofs.YtfkcdnaghndgfaaGreatDoor
namespace Go.Proofs.YtfkcdnaghndgfaaGreatDoor
open Go.RowKit
theorem zaU:yZ { data := #[97] } 1 0 2162688 { data := #[] }=0:=by decide +kernel
theorem zcs (hDF : ∀ w,Calls Tryz.prog 20 #[.string { data := #[] },.int .i64 9] w fun e w' => ∃ X,e = .returned (.string X)∧Upd [] w w') (w:World) :
 Calls Tryz.prog 11 #[] w fun e w'=>e = .returned (.bool true)∧Upd [] w w':=by
 have HLY:=Lib.hid (fun z=>zc4 { data := #[97] } 1 0 2162688 { data := #[] } 9 z (by decide) (by decide) (by decide) (fun z=>(hDF z).mono (fun e w' h=>by
  obtain ⟨X,he,hu⟩:=h
  exact ⟨X,he,fun hx=>absurd hx (Nat.not_lt_zero _),hu⟩)))
 rw [zaU] at HLY
 unfold Qe at HLY
 clear hDF
 go_enter Tryz.func11,Tryz.ntmps11
 go_wp2_with fail
 refine (HLY.out _).mono ?_
 rintro e w1 ⟨r,s,rfl,hl,hu⟩
 obtain ⟨X,hL,hs⟩:=hl.2 zaU
 obtain ⟨f1,f2,f3⟩:=hL.file rfl
 have hx:X.size=0:=by
  rcases f3 with ⟨-,rfl⟩ | ⟨-,h,-⟩
  · rfl
  · exact absurd h (Nat.not_lt_zero _)
 have hz:s.size=31:=by
  rw [hs,ByteArray.size_append,zu,yE,hx,hL.hk,hL.hp]; rfl
 have hn:(zt r.k r.p).length=1:=by rw [hL.hk,hL.hp]; rfl
 have HS:=Lib.hid (fun z=>zeS r z hL.fits (by rw [hL.hl]; omega))
 rw [hn,hL.hl,hx] at HS
 obtain ⟨p,m,sum,l,wh,k,md,t,pos⟩:=r
 unfold RecD.v at HS ⊢
 dsimp only at HS
 clear hl hL hs f1 f2 f3 hx hn
 have hzi:(s.size:Int)=31:=by omega
 have HB:=Lib.hid (Blk.new w1 [.string p,.int .i64 m,.int .u32 (sum:Nat),.int .i64 l,.int .i64 wh,.int .i64 k,.int .i64 md,.int .u32 (t:Nat),.int .i64 pos] 26)
 have HU:=Lib.hid (hu.alloc (.cells #[.string p,.int .i64 m,.int .u32 (sum:Nat),.int .i64 l,.int .i64 wh,.int .i64 k,.int .i64 md,.int .u32 (t:Nat),.int .i64 pos] 26))
 clear hu HLY
 go_upto_region 2 with fail
 change Code.wp _ _ _ _ (w1.alloc (.cells #[.string p,.int .i64 m,.int .u32 (sum:Nat),.int .i64 l,.int .i64 wh,.int .i64 k,.int .i64 md,.int .u32 (t:Nat),.int .i64 pos] 26))
 generalize w1.alloc (.cells #[.string p,.int .i64 m,.int .u32 (sum:Nat),.int .i64 l,.int .i64 wh,.int .i64 k,.int .i64 md,.int .u32 (t:Nat),.int .i64 pos] 26)=w2 at *
 generalize w1.heap.size=c at *
 have cA:=HB.out.all
 go_wp2_with fail
 refine (HS.out _).mono ?_
 rintro e w3 ⟨rfl,hu3⟩
 go_wp2
 go_returns
 exact ⟨rfl,HU.out.then hu3⟩
end Go.Proofs.YtfkcdnaghndgfaaGreatDoor
namespace Go.Proofs.YtfkcdnaghndgfaaGreatDoor
open Go.RowKit Go.Maps Go.WideMaps
theorem Zu {H:Type} {P:Program} {k:TypeId} {R:Value→Option (DataW H×List MemPlace)} {w w':World} {b n:Nat} {D:DataW H} {fp:List Nat} (h:w.ownsMap P k R b n D) (hu:Upd fp w w') (hn:b∉fp):w'.ownsMap P k R b n D:=by
 have hlt:=h.lt
 obtain ⟨es,clock,hb,F⟩:=h
 exact ⟨es,clock,(hu.block b hlt hn).trans hb,F⟩
def CntMap (P:Program) (k e:TypeId) (w:World) (b n:Nat) (f:List UInt8→Nat):Prop :=
 ∃ D:DataW Unit,w.ownsMap P k (plainElem P e) b n D ∧ ∀ p,D.atKey (.string p) (.lit (.int .i64 0)) = .lit (.int .i64 (f p:Nat))
variable {P:Program} {k e t:TypeId}
theorem CntMap.new (w:World):CntMap P k e (w.alloc (.map #[] 0)) w.heap.size 0 (fun _=>0) :=
 ⟨.map [],World.ownsMap_made _ _ _ _,fun p=>rfl⟩
theorem CntMap.upd {w w':World} {b n:Nat} {f:List UInt8→Nat} {fp:List Nat} (h:CntMap P k e w b n f) (hu:Upd fp w w') (hn:b∉fp):CntMap P k e w' b n f:=by
 obtain ⟨D,h1,h2⟩:=h
 exact ⟨D,Zu h1 hu hn,h2⟩
theorem CntMap.alloc {w:World} {b n:Nat} {f:List UInt8→Nat} (h:CntMap P k e w b n f) (o:Obj):CntMap P k e (w.alloc o) b n f:=h.upd ((Upd.refl [] w).alloc o) (by simp)
theorem CntMap.drew {w:World} {b n:Nat} {f:List UInt8→Nat} (h:CntMap P k e w b n f):CntMap P k e w.drew b n f:=h.upd (Upd.refl [] w).drew (by simp)
theorem CntMap.lt {w:World} {b n:Nat} {f:List UInt8→Nat} (h:CntMap P k e w b n f):b<w.heap.size:=by obtain ⟨D,h1,_⟩:=h; exact h1.lt
theorem CntMap.look {w:World} {b n:Nat} {f:List UInt8→Nat} (h:CntMap P k e w b n f) (hk:P.underlying k=some .string) (ht:P.underlying t=some (.map k e)) (he:P.underlying e=some (.int .i64)) (hz:(zeroValue e).run P w = .ok (.int .i64 0) w) (s:ByteArray) (hs:s.size≤maxLen) :
 (Instr.lookup t (.map (some b)) (.string s) false).run P w = .ok (.int .i64 (f s.data.toList:Nat)) w:=by
 obtain ⟨D,h1,h2⟩:=h
 obtain ⟨c,hrun,hat,_⟩:=h1.lookup_int (string_keyed hk) ht he hz (keyOf_string_mk hk hs)
 rw [h2] at hat
 simp only [DataW.lit.injEq,Lit.int.injEq,true_and] at hat
 rw [hrun,← hat]
theorem CntMap.store {w:World} {b n:Nat} {f:List UInt8→Nat} (h:CntMap P k e w b n f) (hk:P.underlying k=some .string) (ht:P.underlying t=some (.map k e)) (he:P.underlying e=some (.int .i64)) (s:ByteArray) (hs:s.size≤maxLen) (hn:n<maxLen) (v:Nat) (hv:v≤9223372036854775807) :
 ∃ w',(Instr.mapUpdate t (.map (some b)) (.string s) (.int .i64 (v:Nat))).run P w = .ok () w'∧CntMap P k e w' b (n+1) (fun p=>if p=s.data.toList then v else f p)∧Upd [b] w w':=by
 obtain ⟨D,h1,h2⟩:=h
 have hw:(Lit.int .i64 (v:Nat)).wf=true:=by simp [Lit.wf,IntKind.min,IntKind.max,IntKind.signed,IntKind.bits]; omega
 obtain ⟨w',hr,h3,h4⟩:=h1.update (string_keyed hk) ht hn (keyOf_string_mk hk hs) (plainElem_int he hw)
 refine ⟨w',hr,⟨_,h3,fun p=>?_⟩,(Upd.refl _ w).grown h4 (fun j hj => .inl (by simp at hj; simp [hj]))⟩
 show (D.put (Lit.string s.data.toList) (DataW.lit (Lit.int .i64 (v:Nat)))).atKey (.string p) (.lit (.int .i64 0)) = .lit (.int .i64 ((if p=s.data.toList then v else f p:Nat):Int))
 by_cases hp:p=s.data.toList
 · subst hp
   rw [if_pos rfl,atKey_put_same (h1.tidy (string_keyed hk)).isMap (by trivial)]
 · rw [if_neg hp,atKey_put_other (by intro e; simp at e; exact hp e)]
   exact h2 p
end Go.Proofs.YtfkcdnaghndgfaaGreatDoor
