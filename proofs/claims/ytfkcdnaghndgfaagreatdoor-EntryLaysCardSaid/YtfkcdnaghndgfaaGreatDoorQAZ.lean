/- Packages entry and swingleref22: Size, Most, Moved, Node, Why: walks. -/
import Derived.Test.YtfkcdnaghndgfaaGreatDoorQAR
import Derived.Test.YtfkcdnaghndgfaaGreatDoorQAN
import Derived.Test.YtfkcdnaghndgfaaGreatDoorQAO
import Derived.Test.YtfkcdnaghndgfaaGreatDoorQAM
import Derived.Test.YtfkcdnaghndgfaaGreatDoorQAQ
import Derived.Test.YtfkcdnaghndgfaaGreatDoorQAP
import Derived.Test.YtfkcdnaghndgfaaGreatDoorREnD
import Derived.Test.YtfkcdnaghndgfaaGreatDoorQAL
import Derived.Maps.OwnOps
import Derived.Maps.Views
import Derived.Maps.OwnSet
import Derived.Test.YtfkcdnaghndgfaaGreatDoorQAA
set_option linter.unusedVariables false
set_option linter.unusedSimpArgs false
set_option linter.unusedSectionVars false
namespace Go.Proofs.YtfkcdnaghndgfaaGreatDoor
open Go.RowKit
theorem JC {fn:Func} {p t:Tmp} (h:fn.results = #[.cell p 24,.tmp t]) (tmps:Array Value) (w:World) (g:Nat) (c0 c1 c2 c3:Value) (hp:tmps.getD p undef = .pointer (some ⟨g,0,none⟩)) (hB:Blk w g [c0,c1,c2,c3] 24) :
 (results fn tmps).run Tryz.prog w = .ok (.tuple #[.agg #[c0,c1,c2,c3],tmps.getD t undef]) w:=by
 have hA:=hB.all
 have hp2:tmps[p]?.getD undef = .pointer (some ⟨g,0,none⟩):=by rw [← hp]; simp
 simp [results,h,go_sem,hp2,hA]
theorem Blk.set4 {w:World} {b:Nat} {a0 a1 a2 a3:Value} {t:TypeId} (h:Blk w b [a0,a1,a2,a3] t) (v0 v1 v2 v3:Value) :
 Blk ((((w.setCell ⟨b,0,none⟩ v0).setCell ⟨b,1,none⟩ v1).setCell ⟨b,2,none⟩ v2).setCell ⟨b,3,none⟩ v3) b [v0,v1,v2,v3] t:=(((h.set 0 v0).set 1 v1).set 2 v2).set 3 v3
theorem Upd.set4 {fp:List Nat} {w0 w:World} {b:Nat} (h:Upd fp w0 w) (hb:b∈fp∨w0.heap.size≤b) (v0 v1 v2 v3:Value) :
 Upd fp w0 ((((w.setCell ⟨b,0,none⟩ v0).setCell ⟨b,1,none⟩ v1).setCell ⟨b,2,none⟩ v2).setCell ⟨b,3,none⟩ v3):=(((h.setCell hb v0).setCell hb v1).setCell hb v2).setCell hb v3
set_option maxRecDepth 100000 in
theorem VU (r:RecD) (w:World) (h:r.Fits) (hl:0≤r.l∧r.l<2147483648) :
 Calls Tryz.prog 13 #[r.v] w fun e w'=>e = .returned (.int .i64 ((30+(zl r.k r.p).length:Nat)+r.l))∧Upd [] w w':=by
 have hz:=xp r.k r.p
 have hp:=h.p
 have HS:=Lib.hid (fun z=>Yf r z h)
 have HW:Hid (IntKind.i64.wrap (((30+(zl r.k r.p).length:Nat):Int)+r.l)=((30+(zl r.k r.p).length:Nat):Int)+r.l):=Lib.hid (IntWalk.i64_in _ (by omega))
 generalize 30+(zl r.k r.p).length=n at *
 obtain ⟨p,m,sum,l,wh,k,md,t,pos⟩:=r
 unfold RecD.v at HS ⊢
 dsimp only at HS HW hl ⊢
 have HB:=Lib.hid (Blk.new w [.string p,.int .i64 m,.int .u32 (sum:Nat),.int .i64 l,.int .i64 wh,.int .i64 k,.int .i64 md,.int .u32 (t:Nat),.int .i64 pos] 26)
 have HU:=Lib.hid ((Upd.refl [] w).alloc (.cells #[.string p,.int .i64 m,.int .u32 (sum:Nat),.int .i64 l,.int .i64 wh,.int .i64 k,.int .i64 md,.int .u32 (t:Nat),.int .i64 pos] 26))
 go_enter Tryz.func13,Tryz.ntmps13
 go_upto_region 1 with fail
 change Code.wp _ _ _ _ (w.alloc (.cells #[.string p,.int .i64 m,.int .u32 (sum:Nat),.int .i64 l,.int .i64 wh,.int .i64 k,.int .i64 md,.int .u32 (t:Nat),.int .i64 pos] 26))
 generalize w.alloc (.cells #[.string p,.int .i64 m,.int .u32 (sum:Nat),.int .i64 l,.int .i64 wh,.int .i64 k,.int .i64 md,.int .u32 (t:Nat),.int .i64 pos] 26)=w1 at *
 generalize w.heap.size=g at *
 refine wp_region_held_drew (S:=fun w'=>Blk w' g [.string p,.int .i64 m,.int .u32 (sum:Nat),.int .i64 l,.int .i64 wh,.int .i64 k,.int .i64 md,.int .u32 (t:Nat),.int .i64 pos] 26∧Upd [] w w') (by kernel_rfl) ⟨HB.out.drew,HU.out.drew⟩ (fun hHeld=>hdN ?_)
 refine hdT 0 (some 3) ?_ (hy:=by intro w0 hSw; have cA:=hSw.1.all; go_simp; try with_reducible rfl); refine hdT 2 (some 5) ?_
 refine hdT 3 (some 6) ?_ (hy:=by intro w0 hSw; have cA:=hSw.1.all; go_simp; try with_reducible rfl)
 refine hdO 1 (fun K hK=>?_)
 go_simp
 refine (HS.out _).mono ?_
 rintro e z1 ⟨rfl,hz1⟩
 go_wp2
 refine hK.out _ _ ⟨hHeld.1.upd hz1 (by simp),hHeld.2.then hz1⟩ (fun hHeld=>hdN ?_)
 clear hK K
 refine hdT 4 (some 7) ?_ (hy:=by intro w0 hSw; clear hSw; go_simp; all_goals rw [HW.out]) (v := .int .i64 ((n:Nat)+l)); refine hdT 5 (some 2) ?_
 refine wpAnyH_done (by kernel_rfl) ?_ 0
 go_wp2
 go_returns
 exact ⟨rfl,hHeld.2⟩
set_option maxRecDepth 100000 in
theorem zeQ (p:ByteArray) (k m:Int) (t:Nat) (D:ByteArray) (w:World) (hp:p.size≤300) (hD:D.size≤65000) :
 Calls Tryz.prog 10 #[.string p,qU k m t D] w fun e w'=>e = .returned (.int .i64 ((30+(zl k p).length:Nat)+(D.size:Nat)))∧Upd [] w w':=by
 have hz:=xp k p
 have HS:=Lib.hid (fun z=>Yf ⟨p,0,0,0,0,k,0,0,0⟩ z ⟨by dsimp only; omega,(show (0:Nat)<4294967296 by decide),(show (0:Nat)<4294967296 by decide)⟩)
 unfold RecD.v at HS
 dsimp only at HS
 have HW:Hid (IntKind.i64.wrap (((30+(zl k p).length:Nat):Int)+(D.size:Nat))=((30+(zl k p).length:Nat):Int)+(D.size:Nat)):=Lib.hid (IntWalk.i64_in _ (by omega))
 generalize 30+(zl k p).length=n at *
 unfold qU
 have HB:=Lib.hid (Blk.new w [.int .i64 k,.int .i64 m,.int .u32 (t:Nat),.string D] 24)
 have HU:=Lib.hid ((Upd.refl [] w).alloc (.cells #[.int .i64 k,.int .i64 m,.int .u32 (t:Nat),.string D] 24))
 go_enter Tryz.func10,Tryz.ntmps10
 go_upto_region 1 with fail
 change Code.wp _ _ _ _ (w.alloc (.cells #[.int .i64 k,.int .i64 m,.int .u32 (t:Nat),.string D] 24))
 generalize w.alloc (.cells #[.int .i64 k,.int .i64 m,.int .u32 (t:Nat),.string D] 24)=w1 at *
 generalize w.heap.size=g at *
 refine wp_region_held_drew (S:=fun w'=>Blk w' g [.int .i64 k,.int .i64 m,.int .u32 (t:Nat),.string D] 24∧Upd [] w w') (by kernel_rfl) ⟨HB.out.drew,HU.out.drew⟩ (fun hHeld=>hdN ?_)
 refine hdT 0 (some 5) ?_; refine hdT 1 (some 6) ?_
 refine hdT 2 (some 7) ?_ (hy:=by intro w0 hSw; have cA:=hSw.1.all; go_simp; try with_reducible rfl); refine hdT 3 (some 8) ?_
 refine hdT 5 (some 10) ?_; refine hdT 6 (some 11) ?_ (hy:=by intro w0 hSw; have cA:=hSw.1.all; go_simp; try with_reducible rfl)
 refine hdT 7 (some 12) ?_
 refine hdO 4 (fun K hK=>?_)
 go_simp
 refine (HS.out _).mono ?_
 rintro e z1 ⟨rfl,hz1⟩
 go_wp2
 refine hK.out _ _ ⟨hHeld.1.upd hz1 (by simp),hHeld.2.then hz1⟩ (fun hHeld=>hdN ?_)
 clear hK K
 refine hdT 8 (some 13) ?_ (hy:=by intro w0 hSw; clear hSw; go_simp; all_goals rw [HW.out]) (v := .int .i64 ((n:Nat)+(D.size:Nat)))
 refine hdT 9 (some 4) ?_
 refine wpAnyH_done (by kernel_rfl) ?_ 0
 go_wp2
 go_returns
 exact ⟨rfl,hHeld.2⟩
def Nd2 (w0:World) (g:Nat) (p:ByteArray) (m:Int) (sum:Nat) (l wh k md:Int) (t:Nat) (pos:Int) (w:World):Prop:=w0.heap.size≤g∧Blk w g [.string p,.int .i64 m,.int .u32 (sum:Nat),.int .i64 l,.int .i64 wh,.int .i64 k,.int .i64 md,.int .u32 (t:Nat),.int .i64 pos] 26∧Blk w (g+1) [.int .i64 0,.int .i64 0,.int .u32 0,.string .empty] 24∧Upd [] w0 w
theorem Nd2.upd {w0 w w':World} {g:Nat} {p:ByteArray} {m:Int} {sum:Nat} {l wh k md:Int} {t:Nat} {pos:Int} {fp:List Nat} (h:Nd2 w0 g p m sum l wh k md t pos w) (hu:Upd fp w w') (hf : ∀ j,j∈fp→g+1<j):Nd2 w0 g p m sum l wh k md t pos w' :=
 ⟨h.1,h.2.1.upd hu (fun hm=>by have:=hf _ hm; omega),h.2.2.1.upd hu (fun hm=>by have:=hf _ hm; omega),h.2.2.2.trans hu (fun j hj => .inr (by have:=hf j hj; have:=h.1; omega))⟩
set_option maxRecDepth 100000 in
set_option maxHeartbeats 3200000 in
theorem za9 (s:ByteArray) (r:RecD) (w:World) (hs:s.size≤1000000) (hr:r.Fits) :
 Calls Tryz.prog 12 #[.string s,r.v] w fun e w'=>e = .returned (zgO (VG s r))∧Upd [] w w':=by
 have HD0:=fun z=>zex s r z hs hr
 have HQ:Hid (VG s r=if (qt s r).2.2≠0 then (0,0,0,⟨#[]⟩,(qt s r).2.2) else (r.k,r.md,if r.k=1 then r.t else 0,(qt s r).1,0)):=Lib.hid rfl
 have HDI:=Lib.hid (fun h=>zdL (s:=s) (r:=r) h)
 unfold ziC at HD0
 generalize VG s r=NQ at *
 generalize qt s r=DP at *
 obtain ⟨D,n,c⟩:=DP
 obtain ⟨p,m,sum,l,wh,k,md,t,pos⟩:=r
 unfold RecD.v at HD0 ⊢
 dsimp only at HD0 HQ HDI ⊢
 have HD:=Lib.hid HD0
 clear HD0
 have S:Hid (Nd2 w w.heap.size p m sum l wh k md t pos ((w.alloc (.cells #[.string p,.int .i64 m,.int .u32 (sum:Nat),.int .i64 l,.int .i64 wh,.int .i64 k,.int .i64 md,.int .u32 (t:Nat),.int .i64 pos] 26)).alloc (.cells #[.int .i64 0,.int .i64 0,.int .u32 0,.string .empty] 24))):=Lib.hid ⟨Nat.le_refl _,(Blk.new w [.string p,.int .i64 m,.int .u32 (sum:Nat),.int .i64 l,.int .i64 wh,.int .i64 k,.int .i64 md,.int .u32 (t:Nat),.int .i64 pos] 26).alloc _,by have h:=Blk.new (w.alloc (.cells #[.string p,.int .i64 m,.int .u32 (sum:Nat),.int .i64 l,.int .i64 wh,.int .i64 k,.int .i64 md,.int .u32 (t:Nat),.int .i64 pos] 26)) [.int .i64 0,.int .i64 0,.int .u32 0,.string .empty] 24; simpa using h,((Upd.refl [] w).alloc _).alloc _⟩
 go_enter Tryz.func12,Tryz.ntmps12
 go_upto_region 1 with fail
 change Code.wp _ _ _ _ ((w.alloc (.cells #[.string p,.int .i64 m,.int .u32 (sum:Nat),.int .i64 l,.int .i64 wh,.int .i64 k,.int .i64 md,.int .u32 (t:Nat),.int .i64 pos] 26)).alloc (.cells #[.int .i64 0,.int .i64 0,.int .u32 0,.string .empty] 24))
 generalize (w.alloc (.cells #[.string p,.int .i64 m,.int .u32 (sum:Nat),.int .i64 l,.int .i64 wh,.int .i64 k,.int .i64 md,.int .u32 (t:Nat),.int .i64 pos] 26)).alloc (.cells #[.int .i64 0,.int .i64 0,.int .u32 0,.string .empty] 24)=w1 at *
 generalize w.heap.size=g at *
 have cA:=S.out.2.1.all
 go_wp2_with fail
 refine (HD.out _).mono ?_
 rintro e w2 ⟨rfl,hu⟩
 have S:=Lib.hid (S.out.upd hu (by simp))
 clear hu cA HD
 have cA:=S.out.2.1.all
 have qA:=S.out.2.2.1.all
 have fA:=S.out.2.2.1.frz
 by_cases h0:c=0
 rotate_left
 · have e1:(((c:Nat):Int) != 0)=true:=by rw [bne_iff_ne]; omega
   have HV:=Lib.hid (HQ.out.trans (if_pos h0))
   clear h0
   go_wp2_with fail
   (try simp only [Exit.inBlock,Exit.then]); refine bodyPost_ret (JC rfl _ _ (g+1) _ _ _ _ rfl (Blk.set4 S.out.2.2.1 _ _ _ _)) rfl ⟨by rw [HV.out]; rfl,Upd.set4 S.out.2.2.2 (.inr (by have:=S.out.1; omega)) _ _ _ _⟩
 have HV:=Lib.hid (HQ.out.trans (if_neg (by simp [h0])))
 have hk:=HDI.out h0
 subst h0
 clear HQ HDI
 rcases hk with rfl | ⟨rfl,hD⟩
 · go_wp2_with fail
   (try simp only [Exit.inBlock,Exit.then]); refine bodyPost_ret (JC rfl _ _ (g+1) _ _ _ _ rfl (Blk.set4 S.out.2.2.1 _ _ _ _)) rfl ⟨by rw [HV.out]; rfl,Upd.set4 S.out.2.2.2 (.inr (by have:=S.out.1; omega)) _ _ _ _⟩
 · have HDE:=Lib.hid hD
   clear hD
   go_wp2_with fail
   (try simp only [Exit.inBlock,Exit.then]); refine bodyPost_ret (JC rfl _ _ (g+1) _ _ _ _ rfl (Blk.set4 S.out.2.2.1 _ _ _ _)) rfl ⟨by rw [HV.out,HDE.out]; rfl,Upd.set4 S.out.2.2.2 (.inr (by have:=S.out.1; omega)) _ _ _ _⟩
set_option maxRecDepth 100000 in
set_option maxHeartbeats 3200000 in
theorem zfe (p:ByteArray) (k m:Int) (t:Nat) (D:ByteArray) (w:World) (hp:p.size≤300) :
 Calls Tryz.prog 7 #[.string p,qU k m t D,.int .i64 (yX k m t D:Nat)] w fun e w'=>e = .returned (.int .i64 (yD p k m t D:Nat))∧Upd [] w w':=by
 have hz:=xp k p
 have HN0:=fun z=>vK ⟨p,0,0,0,0,k,0,0,0⟩ z ⟨by dsimp only; omega,(show (0:Nat)<4294967296 by decide),(show (0:Nat)<4294967296 by decide)⟩
 have HP0:=fun z=>QT (zd (zl k p)) z (by rw [zo]; omega)
 rw [zx _ (qf k p)] at HP0
 have HWY:Hid (yD p k m t D=if yX k m t D≠0 then yX k m t D else if k=0 then 8 else if xM ⟨p,0,0,0,0,k,m,t,0⟩=false then 5 else 0):=Lib.hid rfl
 have HNB:Hid (xM ⟨p,0,0,0,0,k,m,t,0⟩=((zS (zl k p)).2.2&&decide ((zS (zl k p)).1=za p)&&decide (((zS (zl k p)).2.1:Int)=k))):=Lib.hid rfl
 have hlt:=ZZ (qf k p)
 generalize yD p k m t D=WY at *
 generalize xM ⟨p,0,0,0,0,k,m,t,0⟩=NB at *
 generalize yX k m t D=E at *
 generalize zS (zl k p)=PP at *
 obtain ⟨pa,kk,okb⟩:=PP
 unfold RecD.v at HN0
 unfold Yz at HP0
 dsimp only at HN0 HP0 HNB hlt
 have HST:Hid (zd pa=p↔pa=za p):=Lib.hid ⟨fun h=>by rw [← h,zx _ hlt],fun h=>by rw [h,zu]⟩
 generalize zd pa=Q at *
 generalize zd (zl k p)=NS at *
 have HN:=Lib.hid HN0
 have HP:=Lib.hid HP0
 clear HN0 HP0 hlt hz
 unfold qU
 have HB:=Lib.hid (Blk.new w [.int .i64 k,.int .i64 m,.int .u32 (t:Nat),.string D] 24)
 have HU:=Lib.hid ((Upd.refl [] w).alloc (.cells #[.int .i64 k,.int .i64 m,.int .u32 (t:Nat),.string D] 24))
 go_enter Tryz.func7,Tryz.ntmps7
 go_upto_region 1 with fail
 change Code.wp _ _ _ _ (w.alloc (.cells #[.int .i64 k,.int .i64 m,.int .u32 (t:Nat),.string D] 24))
 generalize w.alloc (.cells #[.int .i64 k,.int .i64 m,.int .u32 (t:Nat),.string D] 24)=w1 at *
 generalize hge:w.heap.size=g at *
 have cA:=HB.out.all
 by_cases h0:E=0
 rotate_left
 · have e1:(((E:Nat):Int) != 0)=true:=by rw [bne_iff_ne]; omega
   have HV:=Lib.hid (HWY.out.trans (if_pos h0))
   clear h0
   go_wp2
   go_returns
   exact ⟨by rw [HV.out]; rfl,HU.out⟩
 have HV:=Lib.hid (HWY.out.trans (if_neg (by simp [h0])))
 subst h0
 clear HWY
 by_cases h1:k=0
 · have HV:=Lib.hid (HV.out.trans (if_pos h1))
   subst h1
   go_wp2
   go_returns
   exact ⟨by rw [HV.out]; rfl,HU.out⟩
 have HV:=Lib.hid (HV.out.trans (if_neg h1))
 have e1:(k==0)=false:=by rw [beq_eq_false_iff_ne]; exact h1
 have HB2:=Lib.hid (HB.out.alloc (.cells #[.string p,.int .i64 0,.int .u32 0,.int .i64 0,.int .i64 0,.int .i64 k,.int .i64 0,.int .u32 0,.int .i64 0] 26))
 have HR:=Lib.hid (Blk.new w1 [.string p,.int .i64 0,.int .u32 0,.int .i64 0,.int .i64 0,.int .i64 k,.int .i64 0,.int .u32 0,.int .i64 0] 26)
 have HU2:=Lib.hid (HU.out.alloc (.cells #[.string p,.int .i64 0,.int .u32 0,.int .i64 0,.int .i64 0,.int .i64 k,.int .i64 0,.int .u32 0,.int .i64 0] 26))
 go_upto_region 6 with fail
 change Code.wp _ _ _ _ (w1.alloc (.cells #[.string p,.int .i64 0,.int .u32 0,.int .i64 0,.int .i64 0,.int .i64 k,.int .i64 0,.int .u32 0,.int .i64 0] 26))
 clear cA h1 e1
 generalize w1.alloc (.cells #[.string p,.int .i64 0,.int .u32 0,.int .i64 0,.int .i64 0,.int .i64 k,.int .i64 0,.int .u32 0,.int .i64 0] 26)=w2 at *
 generalize w1.heap.size=c at *
 have cA:=HR.out.all
 have HV3:Hid (WY=if okb=true∧Q=p∧(kk:Int)=k then 0 else 5):=Lib.hid (by
  have h1:=HNB.out
  have h2:=HST.out
  rw [HV.out,h1]
  by_cases a1:okb=true<;>by_cases a2:pa=za p<;>by_cases a3:(kk:Int)=k<;>simp [a1,a2,a3,h2])
 clear HV HNB HST
 go_upto_region 7 with (first | (go_at_call 9; refine (HN.out _).mono ?_; rintro e w3 ⟨rfl,hu3⟩) | (go_at_call 23; refine (HP.out _).mono ?_; rintro e w4 ⟨rfl,hu4⟩))
 have bA:=((HB2.out.upd hu3 (by simp)).upd hu4 (by simp)).all
 have HU5:=Lib.hid ((HU2.out.then hu3).then hu4)
 clear hu3 hu4 cA HN HP HR HB HB2
 by_cases a1:okb=true∧Q=p∧(kk:Int)=k
 · have HW:=Lib.hid (HV3.out.trans (if_pos a1))
   obtain ⟨a2,a3,a4⟩:=a1
   have x3:(Q.toList==p.toList)=true:=by rw [a3]; simp
   have x4:((kk:Int) != k)=false:=by rw [bne_eq_false_iff_eq]; exact a4
   clear a3 a4
   go_wp2
   go_returns
   exact ⟨by rw [HW.out]; rfl,HU5.out⟩
 · have HW:=Lib.hid (HV3.out.trans (if_neg a1))
   rcases (by
    rcases Bool.eq_false_or_eq_true okb with b1 | b1
    · by_cases b2:Q=p
      · exact .inr (.inr ⟨b1,b2,fun b3=>a1 ⟨b1,b2,b3⟩⟩)
      · exact .inr (.inl ⟨b1,b2⟩)
    · exact .inl b1:okb=false∨(okb=true∧Q≠p)∨(okb=true∧Q=p∧(kk:Int)≠k)) with b1 | ⟨b1,b2⟩ | ⟨b1,b2,b3⟩
   · clear a1
     go_wp2
     go_returns
     exact ⟨by rw [HW.out]; rfl,HU5.out⟩
   · have x3:=XT b2
     clear a1 b2
     go_wp2
     go_returns
     exact ⟨by rw [HW.out]; rfl,HU5.out⟩
   · have x3:(Q.toList==p.toList)=true:=by rw [b2]; simp
     have x4:((kk:Int) != k)=true:=by rw [bne_iff_ne]; exact b3
     clear a1 b2 b3
     go_wp2
     go_returns
     exact ⟨by rw [HW.out]; rfl,HU5.out⟩
end Go.Proofs.YtfkcdnaghndgfaaGreatDoor
namespace Go.Proofs.YtfkcdnaghndgfaaGreatDoor
open Go.RowKit
theorem WF:yD { data := #[97] } 1 0 2162688 { data := #[] }=0:=by decide +kernel
theorem zbG (hDF : ∀ w,Calls Tryz.prog 20 #[.string { data := #[] },.int .i64 9] w fun e w' => ∃ X,e = .returned (.string X)∧Upd [] w w') (w:World) :
 Calls Tryz.prog 11 #[] w fun e w'=>e = .returned (.bool true)∧Upd [] w w':=by
 have HLY:=Lib.hid (fun z=>zcZ { data := #[97] } 1 0 2162688 { data := #[] } 9 z (by decide) (by decide) (by decide) (fun z=>(hDF z).mono (fun e w' h=>by
  obtain ⟨X,he,hu⟩:=h
  exact ⟨X,he,fun hx=>absurd hx (Nat.not_lt_zero _),hu⟩)))
 rw [WF] at HLY
 unfold qU at HLY
 clear hDF
 go_enter Tryz.func11,Tryz.ntmps11
 go_wp2_with fail
 refine (HLY.out _).mono ?_
 rintro e w1 ⟨r,s,rfl,hl,hu⟩
 obtain ⟨X,hL,hs⟩:=hl.2 WF
 obtain ⟨f1,f2,f3⟩:=hL.file rfl
 have hx:X.size=0:=by
  rcases f3 with ⟨-,rfl⟩ | ⟨-,h,-⟩
  · rfl
  · exact absurd h (Nat.not_lt_zero _)
 have hz:s.size=31:=by
  rw [hs,ByteArray.size_append,zo,qz,hx,hL.hk,hL.hp]; rfl
 have hn:(zl r.k r.p).length=1:=by rw [hL.hk,hL.hp]; rfl
 have HS:=Lib.hid (fun z=>VU r z hL.fits (by rw [hL.hl]; omega))
 rw [hn,hL.hl,hx] at HS
 obtain ⟨p,m,sum,l,wh,k,md,t,pos⟩:=r
 unfold RecD.v at HS ⊢
 dsimp only at HS
 clear hl hL hs f1 f2 f3 hx hn
 have hzi:(s.size:Int)=31:=by omega
 have HB:=Lib.hid (Blk.new w1 [.string p,.int .i64 m,.int .u32 (sum:Nat),.int .i64 l,.int .i64 wh,.int .i64 k,.int .i64 md,.int .u32 (t:Nat),.int .i64 pos] 26)
 have HU:=Lib.hid (hu.alloc (.cells #[.string p,.int .i64 m,.int .u32 (sum:Nat),.int .i64 l,.int .i64 wh,.int .i64 k,.int .i64 md,.int .u32 (t:Nat),.int .i64 pos] 26))
 clear hu HLY
 go_upto_region 2 with fail
 change Code.wp _ _ _ _ (w1.alloc (.cells #[.string p,.int .i64 m,.int .u32 (sum:Nat),.int .i64 l,.int .i64 wh,.int .i64 k,.int .i64 md,.int .u32 (t:Nat),.int .i64 pos] 26))
 generalize w1.alloc (.cells #[.string p,.int .i64 m,.int .u32 (sum:Nat),.int .i64 l,.int .i64 wh,.int .i64 k,.int .i64 md,.int .u32 (t:Nat),.int .i64 pos] 26)=w2 at *
 generalize w1.heap.size=c at *
 have cA:=HB.out.all
 go_wp2_with fail
 refine (HS.out _).mono ?_
 rintro e w3 ⟨rfl,hu3⟩
 go_wp2
 go_returns
 exact ⟨rfl,HU.out.then hu3⟩
end Go.Proofs.YtfkcdnaghndgfaaGreatDoor
namespace Go.Proofs.YtfkcdnaghndgfaaGreatDoor
open Go.RowKit Go.Maps Go.WideMaps
theorem Zz {H:Type} {P:Program} {k:TypeId} {R:Value→Option (DataW H×List MemPlace)} {w w':World} {b n:Nat} {D:DataW H} {fp:List Nat} (h:w.ownsMap P k R b n D) (hu:Upd fp w w') (hn:b∉fp):w'.ownsMap P k R b n D:=by
 have hlt:=h.lt
 obtain ⟨es,clock,hb,F⟩:=h
 exact ⟨es,clock,(hu.block b hlt hn).trans hb,F⟩
def CntMap (P:Program) (k e:TypeId) (w:World) (b n:Nat) (f:List UInt8→Nat):Prop :=
 ∃ D:DataW Unit,w.ownsMap P k (plainElem P e) b n D ∧ ∀ p,D.atKey (.string p) (.lit (.int .i64 0)) = .lit (.int .i64 (f p:Nat))
variable {P:Program} {k e t:TypeId}
theorem CntMap.new (w:World):CntMap P k e (w.alloc (.map #[] 0)) w.heap.size 0 (fun _=>0) :=
 ⟨.map [],World.ownsMap_made _ _ _ _,fun p=>rfl⟩
theorem CntMap.upd {w w':World} {b n:Nat} {f:List UInt8→Nat} {fp:List Nat} (h:CntMap P k e w b n f) (hu:Upd fp w w') (hn:b∉fp):CntMap P k e w' b n f:=by
 obtain ⟨D,h1,h2⟩:=h
 exact ⟨D,Zz h1 hu hn,h2⟩
theorem CntMap.alloc {w:World} {b n:Nat} {f:List UInt8→Nat} (h:CntMap P k e w b n f) (o:Obj):CntMap P k e (w.alloc o) b n f:=h.upd ((Upd.refl [] w).alloc o) (by simp)
theorem CntMap.drew {w:World} {b n:Nat} {f:List UInt8→Nat} (h:CntMap P k e w b n f):CntMap P k e w.drew b n f:=h.upd (Upd.refl [] w).drew (by simp)
theorem CntMap.lt {w:World} {b n:Nat} {f:List UInt8→Nat} (h:CntMap P k e w b n f):b<w.heap.size:=by obtain ⟨D,h1,_⟩:=h; exact h1.lt
theorem CntMap.look {w:World} {b n:Nat} {f:List UInt8→Nat} (h:CntMap P k e w b n f) (hk:P.underlying k=some .string) (ht:P.underlying t=some (.map k e)) (he:P.underlying e=some (.int .i64)) (hz:(zeroValue e).run P w = .ok (.int .i64 0) w) (s:ByteArray) (hs:s.size≤maxLen) :
 (Instr.lookup t (.map (some b)) (.string s) false).run P w = .ok (.int .i64 (f s.data.toList:Nat)) w:=by
 obtain ⟨D,h1,h2⟩:=h
 obtain ⟨c,hrun,hat,_⟩:=h1.lookup_int (string_keyed hk) ht he hz (keyOf_string_mk hk hs)
 rw [h2] at hat
 simp only [DataW.lit.injEq,Lit.int.injEq,true_and] at hat
 rw [hrun,← hat]
theorem CntMap.store {w:World} {b n:Nat} {f:List UInt8→Nat} (h:CntMap P k e w b n f) (hk:P.underlying k=some .string) (ht:P.underlying t=some (.map k e)) (he:P.underlying e=some (.int .i64)) (s:ByteArray) (hs:s.size≤maxLen) (hn:n<maxLen) (v:Nat) (hv:v≤9223372036854775807) :
 ∃ w',(Instr.mapUpdate t (.map (some b)) (.string s) (.int .i64 (v:Nat))).run P w = .ok () w'∧CntMap P k e w' b (n+1) (fun p=>if p=s.data.toList then v else f p)∧Upd [b] w w':=by
 obtain ⟨D,h1,h2⟩:=h
 have hw:(Lit.int .i64 (v:Nat)).wf=true:=by simp [Lit.wf,IntKind.min,IntKind.max,IntKind.signed,IntKind.bits]; omega
 obtain ⟨w',hr,h3,h4⟩:=h1.update (string_keyed hk) ht hn (keyOf_string_mk hk hs) (plainElem_int he hw)
 refine ⟨w',hr,⟨_,h3,fun p=>?_⟩,(Upd.refl _ w).grown h4 (fun j hj => .inl (by simp at hj; simp [hj]))⟩
 show (D.put (Lit.string s.data.toList) (DataW.lit (Lit.int .i64 (v:Nat)))).atKey (.string p) (.lit (.int .i64 0)) = .lit (.int .i64 ((if p=s.data.toList then v else f p:Nat):Int))
 by_cases hp:p=s.data.toList
 · subst hp
   rw [if_pos rfl,atKey_put_same (h1.tidy (string_keyed hk)).isMap (by trivial)]
 · rw [if_neg hp,atKey_put_other (by intro e; simp at e; exact hp e)]
   exact h2 p
end Go.Proofs.YtfkcdnaghndgfaaGreatDoor
