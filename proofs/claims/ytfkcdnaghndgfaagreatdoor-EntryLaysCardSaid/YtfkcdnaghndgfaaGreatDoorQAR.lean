/- Package entry: Lay: its walk, of whatever deflate.Of lays. -/
import Derived.Test.YtfkcdnaghndgfaaGreatDoorQAO
import Derived.Test.YtfkcdnaghndgfaaGreatDoorQAQ
import Derived.Test.YtfkcdnaghndgfaaGreatDoorQAP
import Derived.Test.YtfkcdnaghndgfaaGreatDoorQAM
import Derived.Deep.RegionHeld3
import Derived.Test.YtfkcdnaghndgfaaGreatDoorQAN
set_option linter.unusedVariables false
set_option linter.unusedSimpArgs false
set_option linter.unusedSectionVars false
namespace Go.Proofs.YtfkcdnaghndgfaaGreatDoor
open Go.RowKit
theorem jY {fn:Func} {p t u:Tmp} (h:fn.results = #[.cell p 26,.tmp t,.tmp u]) (tmps:Array Value) (w:World) (g:Nat) (c0 c1 c2 c3 c4 c5 c6 c7 c8:Value) (hp:tmps.getD p undef = .pointer (some ⟨g,0,none⟩)) (hB:Blk w g [c0,c1,c2,c3,c4,c5,c6,c7,c8] 26) :
 (results fn tmps).run Tryz.prog w = .ok (.tuple #[.agg #[c0,c1,c2,c3,c4,c5,c6,c7,c8],tmps.getD t undef,tmps.getD u undef]) w:=by
 have hA:=hB.all
 have hp2:tmps[p]?.getD undef = .pointer (some ⟨g,0,none⟩):=by rw [← hp]; simp
 simp [results,h,go_sem,hp2,hA]
def Ly (w0:World) (g:Nat) (k m:Int) (t:Nat) (D:ByteArray) (w:World):Prop:=w0.heap.size≤g∧Blk w g [.int .i64 k,.int .i64 m,.int .u32 (t:Nat),.string D] 24∧Blk w (g+1) [.string .empty,.int .i64 0,.int .u32 0,.int .i64 0,.int .i64 0,.int .i64 0,.int .i64 0,.int .u32 0,.int .i64 0] 26∧Upd [] w0 w
theorem Ly.upd {w0 w w':World} {g:Nat} {k m:Int} {t:Nat} {D:ByteArray} {fp:List Nat} (h:Ly w0 g k m t D w) (hu:Upd fp w w') (hf : ∀ j,j∈fp→g+1<j):Ly w0 g k m t D w' :=
 ⟨h.1,h.2.1.upd hu (fun hm=>by have:=hf _ hm; omega),h.2.2.1.upd hu (fun hm=>by have:=hf _ hm; omega),h.2.2.2.trans hu (fun j hj => .inr (by have:=hf j hj; have:=h.1; omega))⟩
theorem Ly.drew {w0 w:World} {g:Nat} {k m:Int} {t:Nat} {D:ByteArray} (h:Ly w0 g k m t D w):Ly w0 g k m t D w.drew:=h.upd ((Upd.refl [] w).drew) (by simp)
theorem zhB {p:ByteArray} {k m:Int} {t:Nat} {D:ByteArray} (h:yX k m t D=0) (hk:k≠0) (hp:p.size≤300) (ht:t<4294967296) (M:Int) (X:ByteArray)
 (hm:M=0∨M=8) (hf:k=1→(M=0∧X=D)∨(M=8∧X.size<D.size∧BackP D X)) (hd:k≠1→M=0∧X=⟨#[]⟩) :
 yt ⟨p,M,if k=1 then xa D else 0,X.size,D.size,k,m,if k=1 then t else 2162688,0⟩=yD p k m t D:=by
 by_cases hn:xM ⟨p,0,0,0,0,k,m,t,0⟩=true
 · have hw:yD p k m t D=0:=by unfold yD; rw [if_neg (by simp [h]),if_neg hk,if_neg (by simp [hn])]
   rw [hw]
   exact Vc hw hp ht M X hm (fun hk=>(hf hk).imp id (fun h=>⟨h.1,h.2.1⟩)) hd
 · have hn2:xM ⟨p,0,0,0,0,k,m,t,0⟩=false:=by simpa using hn
   have hw:yD p k m t D=5:=by unfold yD; rw [if_neg (by simp [h]),if_neg hk,if_pos hn2]
   rw [hw]
   exact if_pos hn2
def LayP (p:ByteArray) (k m:Int) (t:Nat) (D:ByteArray) (r:RecD) (s:ByteArray):Prop :=
 (yD p k m t D≠0→r=jc∧s=⟨#[]⟩)∧(yD p k m t D=0 → ∃ X,LaidE p k m t D r X∧s=zd (yx r)++X)
theorem LayP.bad {p:ByteArray} {k m:Int} {t:Nat} {D:ByteArray} {n:Nat} (h:yD p k m t D=n) (hn:n≠0):LayP p k m t D jc ⟨#[]⟩:=⟨fun _=>⟨rfl,rfl⟩,fun e=>absurd (h.symm.trans e) hn⟩
set_option maxRecDepth 100000 in
set_option maxHeartbeats 6400000 in
theorem zcZ (p:ByteArray) (k m:Int) (t:Nat) (D:ByteArray) (lv:Int) (w:World) (hp:p.size≤300) (ht:t<4294967296) (hD:D.size≤65000)
 (hDF : ∀ w,Calls Tryz.prog 20 #[.string D,.int .i64 lv] w fun e w' => ∃ X,e = .returned (.string X)∧(X.size<D.size→BackP D X)∧Upd [] w w') :
 Calls Tryz.prog 6 #[.string p,qU k m t D,.int .i64 lv] w fun e w' => ∃ r s,e = .returned (.tuple #[r.v,.string s,.int .i64 (yD p k m t D:Nat)])∧LayP p k m t D r s∧Upd [] w w':=by
 have HDF:=Lib.hid hDF
 have HNR:=Lib.hid (fun z=>YM k m t D z ht (by omega))
 have HSU:=Lib.hid (fun z=>zdW D z (by omega))
 have HE:=Lib.hid (fun h=>km (k:=k) (m:=m) (t:=t) (D:=D) h)
 have HLE:=Lib.hid (fun h hk=>zhB (p:=p) (k:=k) (m:=m) (t:=t) (D:=D) h hk hp ht)
 have HMK:=Lib.hid (fun h=>LaidE.mk' (p:=p) (k:=k) (m:=m) (t:=t) (D:=D) h hp ht)
 have HWY:Hid (yD p k m t D=if yX k m t D≠0 then yX k m t D else if k=0 then 8 else if xM ⟨p,0,0,0,0,k,m,t,0⟩=false then 5 else 0):=Lib.hid rfl
 clear hDF
 generalize hWY:yD p k m t D=WY at *
 have HWQ:=Lib.hid hWY
 clear hWY
 generalize yX k m t D=E at *
 have S:Hid (Ly w w.heap.size k m t D ((w.alloc (.cells #[.int .i64 k,.int .i64 m,.int .u32 (t:Nat),.string D] 24)).alloc (.cells #[.string .empty,.int .i64 0,.int .u32 0,.int .i64 0,.int .i64 0,.int .i64 0,.int .i64 0,.int .u32 0,.int .i64 0] 26))):=Lib.hid ⟨Nat.le_refl _,(Blk.new w [.int .i64 k,.int .i64 m,.int .u32 (t:Nat),.string D] 24).alloc _,by have h:=Blk.new (w.alloc (.cells #[.int .i64 k,.int .i64 m,.int .u32 (t:Nat),.string D] 24)) [.string .empty,.int .i64 0,.int .u32 0,.int .i64 0,.int .i64 0,.int .i64 0,.int .i64 0,.int .u32 0,.int .i64 0] 26; simpa using h,((Upd.refl [] w).alloc _).alloc _⟩
 unfold qU at HNR ⊢
 go_enter Tryz.func6,Tryz.ntmps6
 go_upto_region 1 with fail
 change Code.wp _ _ _ _ ((w.alloc (.cells #[.int .i64 k,.int .i64 m,.int .u32 (t:Nat),.string D] 24)).alloc (.cells #[.string .empty,.int .i64 0,.int .u32 0,.int .i64 0,.int .i64 0,.int .i64 0,.int .i64 0,.int .u32 0,.int .i64 0] 26))
 generalize (w.alloc (.cells #[.int .i64 k,.int .i64 m,.int .u32 (t:Nat),.string D] 24)).alloc (.cells #[.string .empty,.int .i64 0,.int .u32 0,.int .i64 0,.int .i64 0,.int .i64 0,.int .i64 0,.int .u32 0,.int .i64 0] 26)=w1 at *
 generalize hge:w.heap.size=g at *
 clear hge
 have cA:=S.out.2.1.all
 go_wp2_with fail
 refine (HNR.out _).mono ?_
 rintro e w2 ⟨rfl,hu⟩
 have S:=Lib.hid (S.out.upd hu (by simp))
 clear hu cA HNR
 by_cases h0:E=0
 rotate_left
 · have e1:(((E:Nat):Int) != 0)=true:=by rw [bne_iff_ne]; omega
   have HV:=Lib.hid (HWY.out.trans (if_pos h0))
   have H0:=Lib.hid h0
   clear h0
   have qA:=S.out.2.2.1.all
   have fA:=S.out.2.2.1.frz
   go_wp2_with fail
   (try simp only [Exit.inBlock,Exit.then]); refine bodyPost_ret (jY rfl _ _ (g+1) _ _ _ _ _ _ _ _ _ rfl (Blk.set9 S.out.2.2.1 _ _ _ _ _ _ _ _ _)) rfl ⟨jc,⟨#[]⟩,by rw [HV.out]; rfl,LayP.bad (HWQ.out.trans HV.out) H0.out,Upd.set9 S.out.2.2.2 (.inr (by have:=S.out.1; omega)) _ _ _ _ _ _ _ _ _⟩
 have HV:=Lib.hid (HWY.out.trans (if_neg (by simp [h0])))
 obtain ⟨q1,q2,q3,q4,q5⟩:=HE.out h0
 subst h0
 clear HWY HE
 have cA:=S.out.2.1.all
 by_cases h1:k=0
 · have HV:=Lib.hid (HV.out.trans (if_pos h1))
   subst h1
   have qA:=S.out.2.2.1.all
   have fA:=S.out.2.2.1.frz
   go_wp2_with fail
   (try simp only [Exit.inBlock,Exit.then]); refine bodyPost_ret (jY rfl _ _ (g+1) _ _ _ _ _ _ _ _ _ rfl (Blk.set9 S.out.2.2.1 _ _ _ _ _ _ _ _ _)) rfl ⟨jc,⟨#[]⟩,by rw [HV.out]; rfl,LayP.bad (HWQ.out.trans HV.out) (by simp),Upd.set9 S.out.2.2.2 (.inr (by have:=S.out.1; omega)) _ _ _ _ _ _ _ _ _⟩
 have HLR:=Lib.hid (HLE.out rfl h1)
 have e1:(k==0)=false:=by rw [beq_eq_false_iff_ne]; exact h1
 go_upto_region 6 with fail
 clear HV HLE
 have HC:=Lib.hid (Blk.new w2 [.string p,.int .i64 0,.int .u32 0,.int .i64 0,.int .i64 0,.int .i64 k,.int .i64 m,.int .u32 2162688,.int .i64 0] 26)
 have hgc:g+1<w2.heap.size:=Blk.lt S.out.2.2.1
 have S:=Lib.hid (S.out.upd ((Upd.refl [] w2).alloc (.cells #[.string p,.int .i64 0,.int .u32 0,.int .i64 0,.int .i64 0,.int .i64 k,.int .i64 m,.int .u32 2162688,.int .i64 0] 26)) (by simp))
 go_upto_region 7 with fail
 change Code.wp _ _ _ _ (w2.alloc (.cells #[.string p,.int .i64 0,.int .u32 0,.int .i64 0,.int .i64 0,.int .i64 k,.int .i64 m,.int .u32 2162688,.int .i64 0] 26))
 clear cA e1
 generalize w2.alloc (.cells #[.string p,.int .i64 0,.int .u32 0,.int .i64 0,.int .i64 0,.int .i64 k,.int .i64 m,.int .u32 2162688,.int .i64 0] 26)=w3 at *
 generalize w2.heap.size=c at *
 have cA:=S.out.2.1.all
 go_upto_if 34 with fail
 clear cA
 have q2:=Lib.hid q2
 have q4:=Lib.hid q4
 go_cut [11] (fun s11 wx => ∃ (M:Int) (X:ByteArray),s11 = .string X∧Ly w g k m t D wx∧Blk wx c [.string p,.int .i64 M,.int .u32 ((if k=1 then xa D else 0:Nat):Int),.int .i64 (X.size:Nat),.int .i64 (D.size:Nat),.int .i64 k,.int .i64 m,.int .u32 ((if k=1 then t else 2162688:Nat):Int),.int .i64 0] 26∧(M=0∨M=8)∧Hid (k=1→(M=0∧X=D)∨(M=8∧X.size<D.size∧BackP D X))∧Hid (k≠1→M=0∧X=⟨#[]⟩))
 case first =>
  by_cases h2:k=1
  · subst h2
    go_upto_region 9 with fail
    refine wp_region_held_drew (S:=fun w'=>Ly w g 1 m t D w'∧Upd [c] w3 w') (by kernel_rfl) ⟨S.out.drew,(Upd.refl _ _).drew⟩ (fun hHeld=>hdN ?_)
    refine hdT 0 (some 35) ?_; refine hdT 1 (some 36) ?_ (hy:=by intro w0 hSw; have q0:=hSw.1.2.1.cell 2 rfl; go_simp; try with_reducible rfl)
    refine hdT 2 (some 37) ?_; refine hdT 4 (some 39) ?_; refine hdT 5 (some 40) ?_; refine hdT 6 (some 41) ?_
    refine hdO 3 (fun K hK=>?_)
    go_simp
    refine (HSU.out _).mono ?_
    rintro e z1 ⟨rfl,hz1⟩
    have hC1:=(show Blk w3.drew c [.string p,.int .i64 0,.int .u32 0,.int .i64 0,.int .i64 0,.int .i64 1,.int .i64 m,.int .u32 2162688,.int .i64 0] 26 from HC.out.drew).upd hz1 (by simp)
    have c7:=hC1.cell 7 rfl
    have c2:=hC1.cell 2 rfl
    have c4:=hC1.cell 4 rfl
    have fA:=hC1.frz
    go_wp2
    refine hK.out _ _ ⟨hHeld.1.upd hz1 (by simp),hHeld.2.trans hz1 (by simp)⟩ (fun hHeld=>hdN ?_)
    clear hK K
    refine hdO 7 (fun K hK=>?_)
    go_simp
    go_wp2
    refine hK.out _ _ ⟨hHeld.1.upd ((Upd.refl [c] _).setCell (.inl (by simp)) _) (by simp; omega),hHeld.2.setCell (.inl (by simp)) _⟩ (fun hHeld=>hdN ?_)
    clear hK K
    refine hdT 8 (some 42) ?_
    refine hdO 9 (fun K hK=>?_)
    go_simp
    go_wp2
    refine hK.out _ _ ⟨hHeld.1.upd ((Upd.refl [c] _).setCell (.inl (by simp)) _) (by simp; omega),hHeld.2.setCell (.inl (by simp)) _⟩ (fun hHeld=>hdN ?_)
    clear hK K
    refine hdT 10 (some 43) ?_
    refine hdO 11 (fun K hK=>?_)
    go_simp
    go_wp2
    refine hK.out _ _ ⟨hHeld.1.upd ((Upd.refl [c] _).setCell (.inl (by simp)) _) (by simp; omega),hHeld.2.setCell (.inl (by simp)) _⟩ (fun hHeld=>hdN ?_)
    clear hK K
    refine wpAnyH_done (by kernel_rfl) ?_ 0
    have HC:=Lib.hid (((hC1.set 7 (.int .u32 (t:Nat))).set 2 (.int .u32 (xa D:Nat))).set 4 (.int .i64 (D.size:Nat)))
    have S:=Lib.hid hHeld.1
    clear hHeld hC1 c7 c2 c4 fA hz1
    generalize ((z1.setCell ⟨c,7,none⟩ (.int .u32 (t:Nat))).setCell ⟨c,2,none⟩ (.int .u32 (xa D:Nat))).setCell ⟨c,4,none⟩ (.int .i64 (D.size:Nat))=w4 at *
    go_wp2_with fail
    refine (HDF.out _).mono ?_
    rintro e w5 ⟨X,rfl,hX,hu⟩
    have HX:=Lib.hid hX
    have S:=Lib.hid (S.out.upd hu (by simp))
    have HC:=Lib.hid (HC.out.upd hu (by simp))
    clear hu hX HDF
    have fA:=HC.out.frz
    have cA:=HC.out.all
    by_cases hx:X.size<D.size
    · have hx2:(X.size:Int)<(D.size:Int):=by omega
      have HC2:=Lib.hid ((HC.out.set 1 (.int .i64 8)).set 3 (.int .i64 (X.size:Nat)))
      have S2:=Lib.hid (S.out.upd (((Upd.refl [c] w5).setCell (p:=⟨c,1,none⟩) (.inl (by simp)) (.int .i64 8)).setCell (p:=⟨c,3,none⟩) (.inl (by simp)) (.int .i64 (X.size:Nat))) (by simp; omega))
      go_wp2
      go_meet
      exact ⟨8,X,rfl,S2.out,HC2.out,.inr rfl,Lib.hid (fun _ => .inr ⟨rfl,hx,HX.out hx⟩),Lib.hid (fun h=>absurd rfl h)⟩
    · have hx2 : ¬ (X.size:Int)<(D.size:Int):=by omega
      have HC2:=Lib.hid (HC.out.set 3 (.int .i64 (D.size:Nat)))
      have S2:=Lib.hid (S.out.upd ((Upd.refl [c] w5).setCell (p:=⟨c,3,none⟩) (.inl (by simp)) (.int .i64 (D.size:Nat))) (by simp; omega))
      go_wp2
      go_meet
      exact ⟨0,D,rfl,S2.out,HC2.out,.inl rfl,Lib.hid (fun _ => .inl ⟨rfl,rfl⟩),Lib.hid (fun h=>absurd rfl h)⟩
  · have e1:(k==1)=false:=by rw [beq_eq_false_iff_ne]; exact h2
    obtain ⟨d1,d2⟩:=q2.out (by omega)
    go_wp2
    go_meet
    refine ⟨0,⟨#[]⟩,by rw [d1],S.out,?_,.inl rfl,Lib.hid (fun h=>absurd h h2),Lib.hid (fun _=>⟨rfl,rfl⟩)⟩
    rw [if_neg h2,if_neg h2,d1]
    exact HC.out
 case rest =>
 obtain ⟨M,X,rfl,hS,hC,hM,hf,hd⟩:=hcut
 clear S HC HSU HDF q2 q4
 have S:=Lib.hid hS
 have HC:=Lib.hid hC
 have HRE:=Lib.hid (HLR.out M X hM hf.out hd.out)
 have HLA:=Lib.hid (fun h=>HMK.out h M X hM hf.out hd.out)
 have hxs:X.size≤65000:=by
  by_cases hk:k=1
  · rcases hf.out hk with ⟨_,rfl⟩ | ⟨_,h,_⟩<;>omega
  · rw [(hd.out hk).2]; decide
 have hsu:(if k=1 then xa D else 0)<4294967296:=by have:=WO D; split<;>omega
 have htt:(if k=1 then t else 2162688)<4294967296:=by split<;>omega
 clear hS hC hM hf hd HLR HMK
 generalize (if k=1 then xa D else 0)=su at *
 generalize (if k=1 then t else 2162688)=tt at *
 have hfit:RecD.Fits ⟨p,M,su,X.size,D.size,k,m,tt,0⟩:=⟨by dsimp only; omega,hsu,htt⟩
 have HRR:=Lib.hid (fun z=>Yi ⟨p,M,su,X.size,D.size,k,m,tt,0⟩ z hfit)
 have HLW:=Lib.hid (fun z=>KT ⟨p,M,su,X.size,D.size,k,m,tt,0⟩ z hfit)
 rw [HRE.out] at HRR
 unfold RecD.v at HRR HLW
 dsimp only at HRR HLW
 have cA:=HC.out.all
 go_wp2_with fail
 refine (HRR.out _).mono ?_
 rintro e w5 ⟨rfl,hu⟩
 have S:=Lib.hid (S.out.upd hu (by simp))
 have HC:=Lib.hid (HC.out.upd hu (by simp))
 clear hu cA HRR
 by_cases h3:WY=0
 rotate_left
 · have e1:(((WY:Nat):Int) != 0)=true:=by rw [bne_iff_ne]; omega
   have qA:=S.out.2.2.1.all
   have fA:=S.out.2.2.1.frz
   go_wp2_with fail
   (try simp only [Exit.inBlock,Exit.then]); refine bodyPost_ret (jY rfl _ _ (g+1) _ _ _ _ _ _ _ _ _ rfl (Blk.set9 S.out.2.2.1 _ _ _ _ _ _ _ _ _)) rfl ⟨jc,⟨#[]⟩,rfl,LayP.bad HWQ.out h3,Upd.set9 S.out.2.2.2 (.inr (by have:=S.out.1; omega)) _ _ _ _ _ _ _ _ _⟩
 have HLB:=Lib.hid (HLA.out h3)
 clear HLA
 subst h3
 have hwr:Ks ⟨p,M,su,X.size,D.size,k,m,tt,0⟩=yx ⟨p,M,su,X.size,D.size,k,m,tt,0⟩:=if_pos HRE.out
 rw [hwr] at HLW
 have hhz:(zd (yx ⟨p,M,su,X.size,D.size,k,m,tt,0⟩)).size≤1000000:=by have:=xp k p; rw [zo,qz]; dsimp only; omega
 obtain ⟨HS,hHS⟩ : ∃ HS,zd (yx ⟨p,M,su,X.size,D.size,k,m,tt,0⟩)=HS:=⟨_,rfl⟩
 rw [hHS] at HLW hhz
 have HHS:=Lib.hid hHS
 have HAD:=Lib.hid (fun w=>run_string_add_sum (P:=Tryz.prog) w HS X (by omega))
 clear hwr hHS HRE
 go_upto_region 17 with fail
 refine wp_region_held_drew (S:=fun w'=>Blk w' c [.string p,.int .i64 M,.int .u32 (su:Nat),.int .i64 (X.size:Nat),.int .i64 (D.size:Nat),.int .i64 k,.int .i64 m,.int .u32 (tt:Nat),.int .i64 0] 26∧Upd [g+1] w5 w') (by kernel_rfl) ⟨HC.out.drew,(Upd.refl _ _).drew⟩ (fun hHeld=>hdN ?_)
 refine hdT 0 (some 63) ?_ (hy:=by intro w0 hSw; have cA:=hSw.1.all; go_simp; try with_reducible rfl)
 refine hdT 1 (some 64) ?_ (hy:=by intro w0 hSw; have cA:=hSw.1.all; go_simp; try with_reducible rfl); refine hdT 3 (some 66) ?_
 refine hdO 2 (fun K hK=>?_)
 go_simp
 refine (HLW.out _).mono ?_
 rintro e z1 ⟨rfl,hz1⟩
 have hQ1:=(show Blk w5.drew (g+1) [.string .empty,.int .i64 0,.int .u32 0,.int .i64 0,.int .i64 0,.int .i64 0,.int .i64 0,.int .u32 0,.int .i64 0] 26 from S.out.2.2.1.drew).upd hz1 (by simp)
 have qA:=hQ1.all
 have fA:=hQ1.frz
 go_wp2
 refine hK.out _ _ ⟨hHeld.1.upd hz1 (by simp),hHeld.2.trans hz1 (by simp)⟩ (fun hHeld=>hdN ?_)
 clear hK K
 refine hdT 4 (some 67) ?_ (hy:=by intro w0 hSw; clear hSw; go_simp; all_goals omega) (v := .string (HS++X))
 refine hdO 5 (fun K hK=>?_)
 go_simp
 go_wp2
 refine hK.out _ _ ⟨Blk.far9 hHeld.1 (by omega) _ _ _ _ _ _ _ _ _,Upd.set9 hHeld.2 (.inl (by simp)) _ _ _ _ _ _ _ _ _⟩ (fun hHeld=>hdN ?_)
 clear hK K
 refine hdT 6 (some 7) ?_; refine hdT 7 (some 8) ?_
 refine wpAnyH_done (by kernel_rfl) ?_ 0
 go_wp2_with fail
 (try simp only [Exit.inBlock,Exit.then]); refine bodyPost_ret (jY rfl _ _ (g+1) _ _ _ _ _ _ _ _ _ rfl (Blk.set9 hQ1 _ _ _ _ _ _ _ _ _)) rfl ⟨⟨p,M,su,X.size,D.size,k,m,tt,0⟩,HS++X,rfl,⟨fun h=>absurd HWQ.out h,fun _=>⟨X,HLB.out,by rw [HHS.out]⟩⟩,S.out.2.2.2.trans hHeld.2 (fun j hj => .inr (by have:=S.out.1; simp at hj; omega))⟩
end Go.Proofs.YtfkcdnaghndgfaaGreatDoor
namespace Go.Proofs.YtfkcdnaghndgfaaGreatDoor
open Go.RowKit
def VG (s:ByteArray) (r:RecD):Int×Int×Nat×ByteArray×Nat :=
 if (qt s r).2.2≠0 then (0,0,0,⟨#[]⟩,(qt s r).2.2) else (r.k,r.md,if r.k=1 then r.t else 0,(qt s r).1,0)
def zgO (x:Int×Int×Nat×ByteArray×Nat):Value := .tuple #[qU x.1 x.2.1 x.2.2.1 x.2.2.2.1,.int .i64 (x.2.2.2.2:Nat)]
theorem zc2 {d:ByteArray} {r:RecD} (h:(Yk d r).2=0):(((Yk d r).1.size:Nat):Int)=r.wh:=by
 unfold Yk at h ⊢
 split at h
 · cases h
 rename_i h1
 split at h
 · cases h
 rename_i h2
 split at h
 · cases h
 rename_i h3
 rw [if_neg h1,if_neg h2,if_neg h3]
 simpa using h2
theorem ze4 {d:ByteArray} {r:RecD} (h:(qB d r).2=0):(((qB d r).1.size:Nat):Int)=r.wh:=by
 unfold qB at h ⊢
 split at h
 · rename_i h1
   split at h
   · rename_i h2; exact absurd h h2
   rename_i h2
   split at h
   · cases h
   rename_i h3
   rw [if_pos h1,if_neg h2,if_neg h3]
   exact zc2 h
 · rename_i h1
   rw [if_neg h1]
   exact zc2 h
theorem zgF {s:ByteArray} {r:RecD} (h:(qt s r).2.2=0):(((qt s r).1.size:Nat):Int)=r.wh∧yt r=0:=by
 unfold qt at h ⊢
 split at h
 · cases h
 rename_i h1
 split at h
 · rename_i h2; exact absurd h h2
 rename_i h2
 split at h
 · cases h
 rename_i h3
 split at h
 · rename_i h4; exact absurd h h4
 rename_i h4
 split at h
 · cases h
 rename_i h5
 split at h
 · rename_i h6; exact absurd h h6
 rename_i h6
 rw [if_neg h1,if_neg h2,if_neg h3,if_neg h4,if_neg h5,if_neg h6]
 exact ⟨ze4 (by simpa using h6),by simpa using h1⟩
theorem zdL {s:ByteArray} {r:RecD} (h:(qt s r).2.2=0):r.k=1∨r.k=2∧(qt s r).1=⟨#[]⟩:=by
 obtain ⟨h1,h2⟩:=zgF h
 obtain ⟨-,-,-,h3⟩:=VR h2
 rcases h3 with h3 | ⟨h3,-,-,h4,-⟩
 · exact .inl h3
 · refine .inr ⟨h3,?_⟩
   generalize (qt s r).1=D at *
   have e:za D=[]:=List.eq_nil_of_length_eq_zero (by rw [zc]; omega)
   have e2:=congrArg zd e
   rw [zu] at e2
   rw [e2]; rfl
end Go.Proofs.YtfkcdnaghndgfaaGreatDoor
namespace Go.Proofs.YtfkcdnaghndgfaaGreatDoor
open Go.RowKit
theorem XT {a b:ByteArray} (h:a≠b):(a.toList==b.toList)=false:=by
 rw [beq_eq_false_iff_ne]
 intro h2
 rw [ByteArray.toList_eq,ByteArray.toList_eq] at h2
 exact h (ByteArray.ext (Array.ext' h2))
end Go.Proofs.YtfkcdnaghndgfaaGreatDoor
namespace Go.Proofs.YtfkcdnaghndgfaaGreatDoor
open Go.RowKit
abbrev Rdr (w:World) (b:Nat) (r:RS):Prop:=Blk w b r.cells 144
end Go.Proofs.YtfkcdnaghndgfaaGreatDoor
namespace Go.Proofs.YtfkcdnaghndgfaaGreatDoor
open Go.RowKit
def HdD.cells (h:HdD):List Value:=[.string .empty,.int .i64 (h.m:Nat),.int .u32 (h.sum:Nat),.int .i64 (h.l:Nat),.int .i64 (h.wh:Nat),.int .i64 0,.int .i64 0,.int .u32 (h.t:Nat),.int .i64 0,.int .u64 (h.beg:Nat),.int .u64 (h.flags:Nat),.string (zd h.name)]
def Fd (w0:World) (b h:Nat) (T:TypeId) (r:RS) (cs:List Value) (w:World):Prop:=w0.heap.size≤h∧h≠b∧Rdr w b r∧Blk w h cs T∧Upd [b] w0 w
theorem Fd.num {w0 w w':World} {b h:Nat} {T:TypeId} {r r':RS} {cs:List Value} (S:Fd w0 b h T r cs w) (hR:Rdr w' b r') (hu:Upd [b] w w'):Fd w0 b h T r' cs w':=⟨S.1,S.2.1,hR,S.2.2.2.1.upd hu (by simpa using S.2.1),S.2.2.2.2.then hu⟩
theorem Fd.set {w0 w:World} {b h:Nat} {T:TypeId} {r:RS} {cs:List Value} (S:Fd w0 b h T r cs w) (i:Nat) (v:Value):Fd w0 b h T r (cs.set i v) (w.setCell ⟨h,i,none⟩ v):=⟨S.1,S.2.1,Blk.setFar S.2.2.1 v (Ne.symm S.2.1),S.2.2.2.1.set i v,S.2.2.2.2.setCell (p:=⟨h,i,none⟩) (.inr S.1) v⟩
end Go.Proofs.YtfkcdnaghndgfaaGreatDoor
namespace Go.Proofs.YtfkcdnaghndgfaaGreatDoor
open Go.RowKit
def ziP (t:Nat×Nat×Nat×Nat×Bool):Value := .tuple #[.int .u32 (t.1:Nat),.int .i64 (t.2.1:Nat),.int .i64 (t.2.2.1:Nat),.int .i64 (t.2.2.2.1:Nat),.bool t.2.2.2.2]
theorem xG {fn:Func} {t u v x y:Tmp} (h:fn.results = #[.tmp t,.tmp u,.tmp v,.tmp x,.tmp y]) (tmps:Array Value) (P:Program) (w:World) :
 (results fn tmps).run P w = .ok (.tuple #[tmps.getD t undef,tmps.getD u undef,tmps.getD v undef,tmps.getD x undef,tmps.getD y undef]) w:=by
 simp [results,h]
theorem Ki (x:ByteArray) (i:Nat):gN x i 4<4294967296:=zgc x i 4
set_option maxRecDepth 100000 in
set_option maxHeartbeats 4000000 in
theorem zen (s:ByteArray) (a:Int) (w:World) (hs:s.size≤1000000):Calls Tryz.prog 32 #[.string s,.int .i64 a] w fun e w'=>e = .returned (ziP (qT s a))∧Upd [] w w':=by
 by_cases ha:a<0∨(s.size:Int)<a
 · have HV:Hid (qT s a=(0,0,0,0,false)):=Lib.hid (if_pos ha)
   rcases ha with ha | ha
   · go_enter Tryz.func32,Tryz.ntmps32
     go_wp2
     (try simp only [Exit.inBlock,Exit.then]); refine bodyPost_ret (xG rfl _ _ _) rfl ⟨?_,Upd.refl _ _⟩
     rw [HV.out]; rfl
   · have ha0 : ¬ a<0:=by omega
     go_enter Tryz.func32,Tryz.ntmps32
     go_wp2
     (try simp only [Exit.inBlock,Exit.then]); refine bodyPost_ret (xG rfl _ _ _) rfl ⟨?_,Upd.refl _ _⟩
     rw [HV.out]; rfl
 · obtain ⟨i,rfl⟩ : ∃ i:Nat,a=i:=⟨a.toNat,by omega⟩
   have hi0:(0:Int)≤(i:Int):=by omega
   have hi1:(i:Int)≤(s.size:Int):=by omega
   obtain ⟨x,hx⟩ : ∃ x,x=s.extract i s.size:=⟨_,rfl⟩
   have hxs:x.size=s.size-i:=by rw [hx,ByteArray.size_extract]; omega
   have HV:Hid (qT s i=Qs x):=Lib.hid (by unfold qT; rw [if_neg ha,hx]; rfl)
   have HXD:=Lib.hid hx
   clear ha hx
   by_cases h12:x.size<12
   · have HV2:Hid (Qs x=(0,0,0,0,false)):=Lib.hid (if_pos (.inl h12))
     have hz:(s.size:Int)-(i:Int)<12:=by omega
     go_enter Tryz.func32,Tryz.ntmps32
     go_wp2
     (try simp only [Exit.inBlock,Exit.then]); refine bodyPost_ret (xG rfl _ _ _) rfl ⟨?_,Upd.refl _ _⟩
     rw [HV.out,HV2.out]; rfl
   · have hz : ¬ (s.size:Int)-(i:Int)<12:=by omega
     have hM2:(((s.extract i s.size).extract 0 4).toList==[80,75,7,8])=decide (gN x 0 4=134695760):=by rw [← HXD.out]; exact zgh x (by omega) [80,75,7,8] 134695760 rfl (by decide)
     have hxm:x.size≤1000000:=by omega
     have hx4:(4:Int)≤((s.extract i s.size).size:Int):=by rw [← HXD.out]; omega
     have b0:=Ki x 0
     have b4:=Ki x 4
     have b8:=Ki x 8
     have b12:=Ki x 12
     have HA0:=Lib.hid (fun w h=>Qd x 0 4 w h hxm (by omega))
     have HA4:=Lib.hid (fun w h=>Qd x 4 4 w h hxm (by omega))
     have HA8:=Lib.hid (fun w h=>Qd x 8 4 w h hxm (by omega))
     have HA12:=Lib.hid (fun w h=>Qd x 12 4 w h hxm (by omega))
     by_cases hb:gN x 0 4=134695760
     · rw [decide_eq_true hb] at hM2
       by_cases h16:x.size<16
       · have HV2:Hid (Qs x=(0,0,0,0,false)):=Lib.hid (if_pos (.inr ⟨hb,h16⟩))
         have hz2:((s.extract i s.size).size:Int)<16:=by rw [← HXD.out]; omega
         clear hb
         go_enter Tryz.func32,Tryz.ntmps32
         go_wp2
         (try simp only [Exit.inBlock,Exit.then]); refine bodyPost_ret (xG rfl _ _ _) rfl ⟨?_,Upd.refl _ _⟩
         rw [HV.out,HV2.out]; rfl
       · have HV2:Hid (Qs x=(gN x 4 4,gN x 8 4,gN x 12 4,16,true)):=Lib.hid (by unfold Qs; rw [if_neg (by omega),if_pos hb])
         have hz2 : ¬ ((s.extract i s.size).size:Int)<16:=by rw [← HXD.out]; omega
         clear hb
         generalize gN x 4 4=va at *
         generalize gN x 8 4=vb at *
         generalize gN x 12 4=vc at *
         go_enter Tryz.func32,Tryz.ntmps32
         go_wp2_with fail
         rw [← HXD.out]
         refine (HA4.out _ (by omega)).mono ?_
         rintro e w1 ⟨rfl,hU1⟩
         go_wp2_with fail
         try rw [← HXD.out]
         refine (HA8.out _ (by omega)).mono ?_
         rintro e w2 ⟨rfl,hU2⟩
         go_wp2_with fail
         try rw [← HXD.out]
         refine (HA12.out _ (by omega)).mono ?_
         rintro e w3 ⟨rfl,hU3⟩
         go_wp2
         (try simp only [Exit.inBlock,Exit.then]); refine bodyPost_ret (xG rfl _ _ _) rfl ⟨?_,(hU1.then hU2).then hU3⟩
         rw [HV.out,HV2.out]; rfl
     · rw [decide_eq_false hb] at hM2
       have HV2:Hid (Qs x=(gN x 0 4,gN x 4 4,gN x 8 4,12,true)):=Lib.hid (by unfold Qs; rw [if_neg (by omega),if_neg hb])
       have hz2 : ¬ ((s.extract i s.size).size:Int)<12:=by rw [← HXD.out]; omega
       clear hb
       generalize gN x 0 4=va at *
       generalize gN x 4 4=vb at *
       generalize gN x 8 4=vc at *
       go_enter Tryz.func32,Tryz.ntmps32
       go_wp2_with fail
       rw [← HXD.out]
       refine (HA0.out _ (by omega)).mono ?_
       rintro e w1 ⟨rfl,hU1⟩
       go_wp2_with fail
       try rw [← HXD.out]
       refine (HA4.out _ (by omega)).mono ?_
       rintro e w2 ⟨rfl,hU2⟩
       go_wp2_with fail
       try rw [← HXD.out]
       refine (HA8.out _ (by omega)).mono ?_
       rintro e w3 ⟨rfl,hU3⟩
       go_wp2
       (try simp only [Exit.inBlock,Exit.then]); refine bodyPost_ret (xG rfl _ _ _) rfl ⟨?_,(hU1.then hU2).then hU3⟩
       rw [HV.out,HV2.out]; rfl
end Go.Proofs.YtfkcdnaghndgfaaGreatDoor
