/- Package entry: Lay: its walk, of whatever deflate.Of lays. -/
import Derived.Test.YtfkcdnaghndgfaaGreatDoorQAT
import Derived.Test.YtfkcdnaghndgfaaGreatDoorQBF
import Derived.Test.YtfkcdnaghndgfaaGreatDoorQAX
import Derived.Test.YtfkcdnaghndgfaaGreatDoorQAR
import Derived.Test.YtfkcdnaghndgfaaGreatDoorQAU
import Derived.Test.YtfkcdnaghndgfaaGreatDoorQBE
set_option linter.unusedVariables false
set_option linter.unusedSimpArgs false
set_option linter.unusedSectionVars false
namespace Go.Proofs.YtfkcdnaghndgfaaGreatDoor
open Go.RowKit
theorem ke {fn:Func} {p t u:Tmp} (h:fn.results = #[.cell p 26,.tmp t,.tmp u]) (tmps:Array Value) (w:World) (g:Nat) (c0 c1 c2 c3 c4 c5 c6 c7 c8:Value) (hp:tmps.getD p undef = .pointer (some ⟨g,0,none⟩)) (hB:Blk w g [c0,c1,c2,c3,c4,c5,c6,c7,c8] 26) :
 (results fn tmps).run Tryz.prog w = .ok (.tuple #[.agg #[c0,c1,c2,c3,c4,c5,c6,c7,c8],tmps.getD t undef,tmps.getD u undef]) w:=by
 have hA:=hB.all
 have hp2:tmps[p]?.getD undef = .pointer (some ⟨g,0,none⟩):=by rw [← hp]; simp
 simp [results,h,go_sem,hp2,hA]
def Ly (w0:World) (g:Nat) (k m:Int) (t:Nat) (D:ByteArray) (w:World):Prop:=w0.heap.size≤g∧Blk w g [.int .i64 k,.int .i64 m,.int .u32 (t:Nat),.string D] 24∧Blk w (g+1) [.string .empty,.int .i64 0,.int .u32 0,.int .i64 0,.int .i64 0,.int .i64 0,.int .i64 0,.int .u32 0,.int .i64 0] 26∧Upd [] w0 w
theorem Ly.upd {w0 w w':World} {g:Nat} {k m:Int} {t:Nat} {D:ByteArray} {fp:List Nat} (h:Ly w0 g k m t D w) (hu:Upd fp w w') (hf : ∀ j,j∈fp→g+1<j):Ly w0 g k m t D w' :=
 ⟨h.1,h.2.1.upd hu (fun hm=>by have:=hf _ hm; omega),h.2.2.1.upd hu (fun hm=>by have:=hf _ hm; omega),h.2.2.2.trans hu (fun j hj => .inr (by have:=hf j hj; have:=h.1; omega))⟩
theorem Ly.drew {w0 w:World} {g:Nat} {k m:Int} {t:Nat} {D:ByteArray} (h:Ly w0 g k m t D w):Ly w0 g k m t D w.drew:=h.upd ((Upd.refl [] w).drew) (by simp)
theorem zhw {p:ByteArray} {k m:Int} {t:Nat} {D:ByteArray} (h:qV k m t D=0) (hk:k≠0) (hp:p.size≤300) (ht:t<4294967296) (M:Int) (X:ByteArray)
 (hm:M=0∨M=8) (hf:k=1→(M=0∧X=D)∨(M=8∧X.size<D.size∧BackP D X)) (hd:k≠1→M=0∧X=⟨#[]⟩) :
 yF ⟨p,M,if k=1 then yA D else 0,X.size,D.size,k,m,if k=1 then t else 2162688,0⟩=xU p k m t D:=by
 by_cases hn:jL ⟨p,0,0,0,0,k,m,t,0⟩=true
 · have hw:xU p k m t D=0:=by unfold xU; rw [if_neg (by simp [h]),if_neg hk,if_neg (by simp [hn])]
   rw [hw]
   exact YX hw hp ht M X hm (fun hk=>(hf hk).imp id (fun h=>⟨h.1,h.2.1⟩)) hd
 · have hn2:jL ⟨p,0,0,0,0,k,m,t,0⟩=false:=by simpa using hn
   have hw:xU p k m t D=5:=by unfold xU; rw [if_neg (by simp [h]),if_neg hk,if_pos hn2]
   rw [hw]
   exact if_pos hn2
def LayP (p:ByteArray) (k m:Int) (t:Nat) (D:ByteArray) (r:RecD) (s:ByteArray):Prop :=
 (xU p k m t D≠0→r=qk∧s=⟨#[]⟩)∧(xU p k m t D=0 → ∃ X,LaidE p k m t D r X∧s=zd (vB r)++X)
theorem LayP.bad {p:ByteArray} {k m:Int} {t:Nat} {D:ByteArray} {n:Nat} (h:xU p k m t D=n) (hn:n≠0):LayP p k m t D qk ⟨#[]⟩:=⟨fun _=>⟨rfl,rfl⟩,fun e=>absurd (h.symm.trans e) hn⟩
set_option maxRecDepth 100000 in
set_option maxHeartbeats 6400000 in
theorem zhz (p:ByteArray) (k m:Int) (t:Nat) (D:ByteArray) (lv:Int) (w:World) (hp:p.size≤300) (ht:t<4294967296) (hD:D.size≤65000)
 (hDF : ∀ w,Calls Tryz.prog 20 #[.string D,.int .i64 lv] w fun e w' => ∃ X,e = .returned (.string X)∧(X.size<D.size→BackP D X)∧Upd [] w w') :
 Calls Tryz.prog 6 #[.string p,Xr k m t D,.int .i64 lv] w fun e w' => ∃ r s,e = .returned (.tuple #[r.v,.string s,.int .i64 (xU p k m t D:Nat)])∧LayP p k m t D r s∧Upd [] w w':=by
 have HDF:=Lib.hid hDF
 have HNR:=Lib.hid (fun z=>YH k m t D z ht (by omega))
 have HSU:=Lib.hid (fun z=>QG D z (by omega))
 have HE:=Lib.hid (fun h=>ku (k:=k) (m:=m) (t:=t) (D:=D) h)
 have HLE:=Lib.hid (fun h hk=>zhw (p:=p) (k:=k) (m:=m) (t:=t) (D:=D) h hk hp ht)
 have HMK:=Lib.hid (fun h=>LaidE.mk' (p:=p) (k:=k) (m:=m) (t:=t) (D:=D) h hp ht)
 have HWY:Hid (xU p k m t D=if qV k m t D≠0 then qV k m t D else if k=0 then 8 else if jL ⟨p,0,0,0,0,k,m,t,0⟩=false then 5 else 0):=Lib.hid rfl
 clear hDF
 generalize hWY:xU p k m t D=WY at *
 have HWQ:=Lib.hid hWY
 clear hWY
 generalize qV k m t D=E at *
 have S:Hid (Ly w w.heap.size k m t D ((w.alloc (.cells #[.int .i64 k,.int .i64 m,.int .u32 (t:Nat),.string D] 24)).alloc (.cells #[.string .empty,.int .i64 0,.int .u32 0,.int .i64 0,.int .i64 0,.int .i64 0,.int .i64 0,.int .u32 0,.int .i64 0] 26))):=Lib.hid ⟨Nat.le_refl _,(Blk.new w [.int .i64 k,.int .i64 m,.int .u32 (t:Nat),.string D] 24).alloc _,by have h:=Blk.new (w.alloc (.cells #[.int .i64 k,.int .i64 m,.int .u32 (t:Nat),.string D] 24)) [.string .empty,.int .i64 0,.int .u32 0,.int .i64 0,.int .i64 0,.int .i64 0,.int .i64 0,.int .u32 0,.int .i64 0] 26; simpa using h,((Upd.refl [] w).alloc _).alloc _⟩
 unfold Xr at HNR ⊢
 go_enter Tryz.func6,Tryz.ntmps6
 go_upto_region 1 with fail
 change Code.wp _ _ _ _ ((w.alloc (.cells #[.int .i64 k,.int .i64 m,.int .u32 (t:Nat),.string D] 24)).alloc (.cells #[.string .empty,.int .i64 0,.int .u32 0,.int .i64 0,.int .i64 0,.int .i64 0,.int .i64 0,.int .u32 0,.int .i64 0] 26))
 generalize (w.alloc (.cells #[.int .i64 k,.int .i64 m,.int .u32 (t:Nat),.string D] 24)).alloc (.cells #[.string .empty,.int .i64 0,.int .u32 0,.int .i64 0,.int .i64 0,.int .i64 0,.int .i64 0,.int .u32 0,.int .i64 0] 26)=w1 at *
 generalize hge:w.heap.size=g at *
 clear hge
 have cA:=S.out.2.1.all
 go_wp2_with fail
 refine (HNR.out _).mono ?_
 rintro e w2 ⟨rfl,hu⟩
 have S:=Lib.hid (S.out.upd hu (by simp))
 clear hu cA HNR
 by_cases h0:E=0
 rotate_left
 · have e1:(((E:Nat):Int) != 0)=true:=by rw [bne_iff_ne]; omega
   have HV:=Lib.hid (HWY.out.trans (if_pos h0))
   have H0:=Lib.hid h0
   clear h0
   have qA:=S.out.2.2.1.all
   have fA:=S.out.2.2.1.frz
   go_wp2_with fail
   (try simp only [Exit.inBlock,Exit.then]); refine bodyPost_ret (ke rfl _ _ (g+1) _ _ _ _ _ _ _ _ _ rfl (Blk.set9 S.out.2.2.1 _ _ _ _ _ _ _ _ _)) rfl ⟨qk,⟨#[]⟩,by rw [HV.out]; rfl,LayP.bad (HWQ.out.trans HV.out) H0.out,Upd.set9 S.out.2.2.2 (.inr (by have:=S.out.1; omega)) _ _ _ _ _ _ _ _ _⟩
 have HV:=Lib.hid (HWY.out.trans (if_neg (by simp [h0])))
 obtain ⟨q1,q2,q3,q4,q5⟩:=HE.out h0
 subst h0
 clear HWY HE
 have cA:=S.out.2.1.all
 by_cases h1:k=0
 · have HV:=Lib.hid (HV.out.trans (if_pos h1))
   subst h1
   have qA:=S.out.2.2.1.all
   have fA:=S.out.2.2.1.frz
   go_wp2_with fail
   (try simp only [Exit.inBlock,Exit.then]); refine bodyPost_ret (ke rfl _ _ (g+1) _ _ _ _ _ _ _ _ _ rfl (Blk.set9 S.out.2.2.1 _ _ _ _ _ _ _ _ _)) rfl ⟨qk,⟨#[]⟩,by rw [HV.out]; rfl,LayP.bad (HWQ.out.trans HV.out) (by simp),Upd.set9 S.out.2.2.2 (.inr (by have:=S.out.1; omega)) _ _ _ _ _ _ _ _ _⟩
 have HLR:=Lib.hid (HLE.out rfl h1)
 have e1:(k==0)=false:=by rw [beq_eq_false_iff_ne]; exact h1
 go_upto_region 6 with fail
 clear HV HLE
 have HC:=Lib.hid (Blk.new w2 [.string p,.int .i64 0,.int .u32 0,.int .i64 0,.int .i64 0,.int .i64 k,.int .i64 m,.int .u32 2162688,.int .i64 0] 26)
 have hgc:g+1<w2.heap.size:=Blk.lt S.out.2.2.1
 have S:=Lib.hid (S.out.upd ((Upd.refl [] w2).alloc (.cells #[.string p,.int .i64 0,.int .u32 0,.int .i64 0,.int .i64 0,.int .i64 k,.int .i64 m,.int .u32 2162688,.int .i64 0] 26)) (by simp))
 go_upto_region 7 with fail
 change Code.wp _ _ _ _ (w2.alloc (.cells #[.string p,.int .i64 0,.int .u32 0,.int .i64 0,.int .i64 0,.int .i64 k,.int .i64 m,.int .u32 2162688,.int .i64 0] 26))
 clear cA e1
 generalize w2.alloc (.cells #[.string p,.int .i64 0,.int .u32 0,.int .i64 0,.int .i64 0,.int .i64 k,.int .i64 m,.int .u32 2162688,.int .i64 0] 26)=w3 at *
 generalize w2.heap.size=c at *
 have cA:=S.out.2.1.all
 go_upto_if 34 with fail
 clear cA
 have q2:=Lib.hid q2
 have q4:=Lib.hid q4
 go_cut [11] (fun s11 wx => ∃ (M:Int) (X:ByteArray),s11 = .string X∧Ly w g k m t D wx∧Blk wx c [.string p,.int .i64 M,.int .u32 ((if k=1 then yA D else 0:Nat):Int),.int .i64 (X.size:Nat),.int .i64 (D.size:Nat),.int .i64 k,.int .i64 m,.int .u32 ((if k=1 then t else 2162688:Nat):Int),.int .i64 0] 26∧(M=0∨M=8)∧Hid (k=1→(M=0∧X=D)∨(M=8∧X.size<D.size∧BackP D X))∧Hid (k≠1→M=0∧X=⟨#[]⟩))
 case first =>
  by_cases h2:k=1
  · subst h2
    go_upto_region 9 with fail
    refine wp_region_held_drew (S:=fun w'=>Ly w g 1 m t D w'∧Upd [c] w3 w') (by kernel_rfl) ⟨S.out.drew,(Upd.refl _ _).drew⟩ (fun hHeld=>hdN ?_)
    refine hdT 0 (some 35) ?_; refine hdT 1 (some 36) ?_ (hy:=by intro w0 hSw; have q0:=hSw.1.2.1.cell 2 rfl; go_simp; try with_reducible rfl)
    refine hdT 2 (some 37) ?_; refine hdT 4 (some 39) ?_; refine hdT 5 (some 40) ?_; refine hdT 6 (some 41) ?_
    refine hdO 3 (fun K hK=>?_)
    go_simp
    refine (HSU.out _).mono ?_
    rintro e z1 ⟨rfl,hz1⟩
    have hC1:=(show Blk w3.drew c [.string p,.int .i64 0,.int .u32 0,.int .i64 0,.int .i64 0,.int .i64 1,.int .i64 m,.int .u32 2162688,.int .i64 0] 26 from HC.out.drew).upd hz1 (by simp)
    have c7:=hC1.cell 7 rfl
    have c2:=hC1.cell 2 rfl
    have c4:=hC1.cell 4 rfl
    have fA:=hC1.frz
    go_wp2
    refine hK.out _ _ ⟨hHeld.1.upd hz1 (by simp),hHeld.2.trans hz1 (by simp)⟩ (fun hHeld=>hdN ?_)
    clear hK K
    refine hdO 7 (fun K hK=>?_)
    go_simp
    go_wp2
    refine hK.out _ _ ⟨hHeld.1.upd ((Upd.refl [c] _).setCell (.inl (by simp)) _) (by simp; omega),hHeld.2.setCell (.inl (by simp)) _⟩ (fun hHeld=>hdN ?_)
    clear hK K
    refine hdT 8 (some 42) ?_
    refine hdO 9 (fun K hK=>?_)
    go_simp
    go_wp2
    refine hK.out _ _ ⟨hHeld.1.upd ((Upd.refl [c] _).setCell (.inl (by simp)) _) (by simp; omega),hHeld.2.setCell (.inl (by simp)) _⟩ (fun hHeld=>hdN ?_)
    clear hK K
    refine hdT 10 (some 43) ?_
    refine hdO 11 (fun K hK=>?_)
    go_simp
    go_wp2
    refine hK.out _ _ ⟨hHeld.1.upd ((Upd.refl [c] _).setCell (.inl (by simp)) _) (by simp; omega),hHeld.2.setCell (.inl (by simp)) _⟩ (fun hHeld=>hdN ?_)
    clear hK K
    refine wpAnyH_done (by kernel_rfl) ?_ 0
    have HC:=Lib.hid (((hC1.set 7 (.int .u32 (t:Nat))).set 2 (.int .u32 (yA D:Nat))).set 4 (.int .i64 (D.size:Nat)))
    have S:=Lib.hid hHeld.1
    clear hHeld hC1 c7 c2 c4 fA hz1
    generalize ((z1.setCell ⟨c,7,none⟩ (.int .u32 (t:Nat))).setCell ⟨c,2,none⟩ (.int .u32 (yA D:Nat))).setCell ⟨c,4,none⟩ (.int .i64 (D.size:Nat))=w4 at *
    go_wp2_with fail
    refine (HDF.out _).mono ?_
    rintro e w5 ⟨X,rfl,hX,hu⟩
    have HX:=Lib.hid hX
    have S:=Lib.hid (S.out.upd hu (by simp))
    have HC:=Lib.hid (HC.out.upd hu (by simp))
    clear hu hX HDF
    have fA:=HC.out.frz
    have cA:=HC.out.all
    by_cases hx:X.size<D.size
    · have hx2:(X.size:Int)<(D.size:Int):=by omega
      have HC2:=Lib.hid ((HC.out.set 1 (.int .i64 8)).set 3 (.int .i64 (X.size:Nat)))
      have S2:=Lib.hid (S.out.upd (((Upd.refl [c] w5).setCell (p:=⟨c,1,none⟩) (.inl (by simp)) (.int .i64 8)).setCell (p:=⟨c,3,none⟩) (.inl (by simp)) (.int .i64 (X.size:Nat))) (by simp; omega))
      go_wp2
      go_meet
      exact ⟨8,X,rfl,S2.out,HC2.out,.inr rfl,Lib.hid (fun _ => .inr ⟨rfl,hx,HX.out hx⟩),Lib.hid (fun h=>absurd rfl h)⟩
    · have hx2 : ¬ (X.size:Int)<(D.size:Int):=by omega
      have HC2:=Lib.hid (HC.out.set 3 (.int .i64 (D.size:Nat)))
      have S2:=Lib.hid (S.out.upd ((Upd.refl [c] w5).setCell (p:=⟨c,3,none⟩) (.inl (by simp)) (.int .i64 (D.size:Nat))) (by simp; omega))
      go_wp2
      go_meet
      exact ⟨0,D,rfl,S2.out,HC2.out,.inl rfl,Lib.hid (fun _ => .inl ⟨rfl,rfl⟩),Lib.hid (fun h=>absurd rfl h)⟩
  · have e1:(k==1)=false:=by rw [beq_eq_false_iff_ne]; exact h2
    obtain ⟨d1,d2⟩:=q2.out (by omega)
    go_wp2
    go_meet
    refine ⟨0,⟨#[]⟩,by rw [d1],S.out,?_,.inl rfl,Lib.hid (fun h=>absurd h h2),Lib.hid (fun _=>⟨rfl,rfl⟩)⟩
    rw [if_neg h2,if_neg h2,d1]
    exact HC.out
 case rest =>
 obtain ⟨M,X,rfl,hS,hC,hM,hf,hd⟩:=hcut
 clear S HC HSU HDF q2 q4
 have S:=Lib.hid hS
 have HC:=Lib.hid hC
 have HRE:=Lib.hid (HLR.out M X hM hf.out hd.out)
 have HLA:=Lib.hid (fun h=>HMK.out h M X hM hf.out hd.out)
 have hxs:X.size≤65000:=by
  by_cases hk:k=1
  · rcases hf.out hk with ⟨_,rfl⟩ | ⟨_,h,_⟩<;>omega
  · rw [(hd.out hk).2]; decide
 have hsu:(if k=1 then yA D else 0)<4294967296:=by have:=WI D; split<;>omega
 have htt:(if k=1 then t else 2162688)<4294967296:=by split<;>omega
 clear hS hC hM hf hd HLR HMK
 generalize (if k=1 then yA D else 0)=su at *
 generalize (if k=1 then t else 2162688)=tt at *
 have hfit:RecD.Fits ⟨p,M,su,X.size,D.size,k,m,tt,0⟩:=⟨by dsimp only; omega,hsu,htt⟩
 have HRR:=Lib.hid (fun z=>JJ ⟨p,M,su,X.size,D.size,k,m,tt,0⟩ z hfit)
 have HLW:=Lib.hid (fun z=>Kq ⟨p,M,su,X.size,D.size,k,m,tt,0⟩ z hfit)
 rw [HRE.out] at HRR
 unfold RecD.v at HRR HLW
 dsimp only at HRR HLW
 have cA:=HC.out.all
 go_wp2_with fail
 refine (HRR.out _).mono ?_
 rintro e w5 ⟨rfl,hu⟩
 have S:=Lib.hid (S.out.upd hu (by simp))
 have HC:=Lib.hid (HC.out.upd hu (by simp))
 clear hu cA HRR
 by_cases h3:WY=0
 rotate_left
 · have e1:(((WY:Nat):Int) != 0)=true:=by rw [bne_iff_ne]; omega
   have qA:=S.out.2.2.1.all
   have fA:=S.out.2.2.1.frz
   go_wp2_with fail
   (try simp only [Exit.inBlock,Exit.then]); refine bodyPost_ret (ke rfl _ _ (g+1) _ _ _ _ _ _ _ _ _ rfl (Blk.set9 S.out.2.2.1 _ _ _ _ _ _ _ _ _)) rfl ⟨qk,⟨#[]⟩,rfl,LayP.bad HWQ.out h3,Upd.set9 S.out.2.2.2 (.inr (by have:=S.out.1; omega)) _ _ _ _ _ _ _ _ _⟩
 have HLB:=Lib.hid (HLA.out h3)
 clear HLA
 subst h3
 have hwr:KG ⟨p,M,su,X.size,D.size,k,m,tt,0⟩=vB ⟨p,M,su,X.size,D.size,k,m,tt,0⟩:=if_pos HRE.out
 rw [hwr] at HLW
 have hhz:(zd (vB ⟨p,M,su,X.size,D.size,k,m,tt,0⟩)).size≤1000000:=by have:=jB k p; rw [zq,VA]; dsimp only; omega
 obtain ⟨HS,hHS⟩ : ∃ HS,zd (vB ⟨p,M,su,X.size,D.size,k,m,tt,0⟩)=HS:=⟨_,rfl⟩
 rw [hHS] at HLW hhz
 have HHS:=Lib.hid hHS
 have HAD:=Lib.hid (fun w=>run_string_add_sum (P:=Tryz.prog) w HS X (by omega))
 clear hwr hHS HRE
 go_upto_region 17 with fail
 refine wp_region_held_drew (S:=fun w'=>Blk w' c [.string p,.int .i64 M,.int .u32 (su:Nat),.int .i64 (X.size:Nat),.int .i64 (D.size:Nat),.int .i64 k,.int .i64 m,.int .u32 (tt:Nat),.int .i64 0] 26∧Upd [g+1] w5 w') (by kernel_rfl) ⟨HC.out.drew,(Upd.refl _ _).drew⟩ (fun hHeld=>hdN ?_)
 refine hdT 0 (some 63) ?_ (hy:=by intro w0 hSw; have cA:=hSw.1.all; go_simp; try with_reducible rfl)
 refine hdT 1 (some 64) ?_ (hy:=by intro w0 hSw; have cA:=hSw.1.all; go_simp; try with_reducible rfl); refine hdT 3 (some 66) ?_
 refine hdO 2 (fun K hK=>?_)
 go_simp
 refine (HLW.out _).mono ?_
 rintro e z1 ⟨rfl,hz1⟩
 have hQ1:=(show Blk w5.drew (g+1) [.string .empty,.int .i64 0,.int .u32 0,.int .i64 0,.int .i64 0,.int .i64 0,.int .i64 0,.int .u32 0,.int .i64 0] 26 from S.out.2.2.1.drew).upd hz1 (by simp)
 have qA:=hQ1.all
 have fA:=hQ1.frz
 go_wp2
 refine hK.out _ _ ⟨hHeld.1.upd hz1 (by simp),hHeld.2.trans hz1 (by simp)⟩ (fun hHeld=>hdN ?_)
 clear hK K
 refine hdT 4 (some 67) ?_ (hy:=by intro w0 hSw; clear hSw; go_simp; all_goals omega) (v := .string (HS++X))
 refine hdO 5 (fun K hK=>?_)
 go_simp
 go_wp2
 refine hK.out _ _ ⟨Blk.far9 hHeld.1 (by omega) _ _ _ _ _ _ _ _ _,Upd.set9 hHeld.2 (.inl (by simp)) _ _ _ _ _ _ _ _ _⟩ (fun hHeld=>hdN ?_)
 clear hK K
 refine hdT 6 (some 7) ?_; refine hdT 7 (some 8) ?_
 refine wpAnyH_done (by kernel_rfl) ?_ 0
 go_wp2_with fail
 (try simp only [Exit.inBlock,Exit.then]); refine bodyPost_ret (ke rfl _ _ (g+1) _ _ _ _ _ _ _ _ _ rfl (Blk.set9 hQ1 _ _ _ _ _ _ _ _ _)) rfl ⟨⟨p,M,su,X.size,D.size,k,m,tt,0⟩,HS++X,rfl,⟨fun h=>absurd HWQ.out h,fun _=>⟨X,HLB.out,by rw [HHS.out]⟩⟩,S.out.2.2.2.trans hHeld.2 (fun j hj => .inr (by have:=S.out.1; simp at hj; omega))⟩
end Go.Proofs.YtfkcdnaghndgfaaGreatDoor
namespace Go.Proofs.YtfkcdnaghndgfaaGreatDoor
open Go.RowKit
theorem WJ:xU { data := #[97] } 1 0 2162688 { data := #[] }=0:=by decide +kernel
theorem zcJ (hDF : ∀ w,Calls Tryz.prog 20 #[.string { data := #[] },.int .i64 9] w fun e w' => ∃ X,e = .returned (.string X)∧Upd [] w w') (w:World) :
 Calls Tryz.prog 11 #[] w fun e w'=>e = .returned (.bool true)∧Upd [] w w':=by
 have HLY:=Lib.hid (fun z=>zhz { data := #[97] } 1 0 2162688 { data := #[] } 9 z (by decide) (by decide) (by decide) (fun z=>(hDF z).mono (fun e w' h=>by
  obtain ⟨X,he,hu⟩:=h
  exact ⟨X,he,fun hx=>absurd hx (Nat.not_lt_zero _),hu⟩)))
 rw [WJ] at HLY
 unfold Xr at HLY
 clear hDF
 go_enter Tryz.func11,Tryz.ntmps11
 go_wp2_with fail
 refine (HLY.out _).mono ?_
 rintro e w1 ⟨r,s,rfl,hl,hu⟩
 obtain ⟨X,hL,hs⟩:=hl.2 WJ
 obtain ⟨f1,f2,f3⟩:=hL.file rfl
 have hx:X.size=0:=by
  rcases f3 with ⟨-,rfl⟩ | ⟨-,h,-⟩
  · rfl
  · exact absurd h (Nat.not_lt_zero _)
 have hz:s.size=31:=by
  rw [hs,ByteArray.size_append,zq,VA,hx,hL.hk,hL.hp]; rfl
 have hn:(zJ r.k r.p).length=1:=by rw [hL.hk,hL.hp]; rfl
 have HS:=Lib.hid (fun z=>zeV r z hL.fits (by rw [hL.hl]; omega))
 rw [hn,hL.hl,hx] at HS
 obtain ⟨p,m,sum,l,wh,k,md,t,pos⟩:=r
 unfold RecD.v at HS ⊢
 dsimp only at HS
 clear hl hL hs f1 f2 f3 hx hn
 have hzi:(s.size:Int)=31:=by omega
 have HB:=Lib.hid (Blk.new w1 [.string p,.int .i64 m,.int .u32 (sum:Nat),.int .i64 l,.int .i64 wh,.int .i64 k,.int .i64 md,.int .u32 (t:Nat),.int .i64 pos] 26)
 have HU:=Lib.hid (hu.alloc (.cells #[.string p,.int .i64 m,.int .u32 (sum:Nat),.int .i64 l,.int .i64 wh,.int .i64 k,.int .i64 md,.int .u32 (t:Nat),.int .i64 pos] 26))
 clear hu HLY
 go_upto_region 2 with fail
 change Code.wp _ _ _ _ (w1.alloc (.cells #[.string p,.int .i64 m,.int .u32 (sum:Nat),.int .i64 l,.int .i64 wh,.int .i64 k,.int .i64 md,.int .u32 (t:Nat),.int .i64 pos] 26))
 generalize w1.alloc (.cells #[.string p,.int .i64 m,.int .u32 (sum:Nat),.int .i64 l,.int .i64 wh,.int .i64 k,.int .i64 md,.int .u32 (t:Nat),.int .i64 pos] 26)=w2 at *
 generalize w1.heap.size=c at *
 have cA:=HB.out.all
 go_wp2_with fail
 refine (HS.out _).mono ?_
 rintro e w3 ⟨rfl,hu3⟩
 go_wp2
 go_returns
 exact ⟨rfl,HU.out.then hu3⟩
end Go.Proofs.YtfkcdnaghndgfaaGreatDoor
namespace Go.Proofs.YtfkcdnaghndgfaaGreatDoor
inductive Coin where
 | leaf (w s:Nat)
 | pack (a b:Coin)
def Coin.w:Coin→Nat
 | .leaf w _=>w
 | .pack a b=>a.w+b.w
def Coin.cnt (s:Nat):Coin→Nat
 | .leaf _ t=>if t=s then 1 else 0
 | .pack a b=>a.cnt s+b.cnt s
def yK (l:List Coin):Nat:=(l.map Coin.w).sum
def jH (s:Nat) (l:List Coin):Nat:=(l.map (Coin.cnt s)).sum
def leC (x y:Coin):Bool:=decide (x.w≤y.w)
def zG (a b:List Coin):List Coin:=List.merge a b leC
def yx:List Coin→List Coin
 | a::b::r => .pack a b::yx r
 | [_]=>[]
 | []=>[]
def zQ (lv:List Coin):Nat→List Coin
 | 0=>[]
 | j+1=>zG lv (yx (zQ lv j))
theorem jg (a b:List Coin):yK (a++b)=yK a+yK b:=by simp [yK]
theorem zaq (s:Nat) (a b:List Coin):jH s (a++b)=jH s a+jH s b:=by simp [jH]
theorem xx (a:Coin) (b:List Coin):yK (a::b)=a.w+yK b:=by simp [yK]
theorem Vi (s:Nat) (a:Coin) (b:List Coin):jH s (a::b)=a.cnt s+jH s b:=by simp [jH]
theorem ze1 {a b:List Coin} (h:a.Perm b):yK a=yK b:=(h.map _).sum_nat
theorem zeo {s:Nat} {a b:List Coin} (h:a.Perm b):jH s a=jH s b:=(h.map _).sum_nat
theorem ve (b:List Coin):zG [] b=b:=by unfold zG; rw [List.nil_merge]
theorem js (a:List Coin):zG a []=a:=by unfold zG; rw [List.merge_right]
theorem kd (x y:Coin) (a b:List Coin):zG (x::a) (y::b)=if x.w≤y.w then x::zG a (y::b) else y::zG (x::a) b:=by
 unfold zG
 rw [List.cons_merge_cons]
 by_cases h:x.w≤y.w
 · rw [if_pos h,if_pos (by unfold leC; exact decide_eq_true h)]
 · rw [if_neg h,if_neg (by unfold leC; simpa using h)]
theorem qU (a b:List Coin):(zG a b).length=a.length+b.length:=by unfold zG; exact List.length_merge ..
theorem yP : ∀ l:List Coin,(yx l).length=l.length/2
 | []=>rfl
 | [_]=>by simp [yx]
 | a::b::r=>by
   show (yx r).length+1=(r.length+2)/2
   rw [yP r]; omega
def vF (l:List Coin):Prop:=l.Pairwise (fun x y=>x.w≤y.w)
theorem zaH {a b:List Coin} (ha:vF a) (hb:vF b):vF (zG a b):=by
 induction a generalizing b with
 | nil=>rw [ve]; exact hb
 | cons x a iha =>
   induction b with
   | nil=>rw [js]; exact ha
   | cons y b ihb =>
     rw [kd]
     have ha':=List.pairwise_cons.1 ha
     have hb':=List.pairwise_cons.1 hb
     by_cases h:x.w≤y.w
     · rw [if_pos h]
       refine List.pairwise_cons.2 ⟨?_,iha ha'.2 hb⟩
       intro z hz
       unfold zG at hz
       rcases List.mem_merge.1 hz with hz | hz
       · exact ha'.1 z hz
       · rcases List.mem_cons.1 hz with rfl | hz
         · exact h
         · exact Nat.le_trans h (hb'.1 z hz)
     · rw [if_neg h]
       refine List.pairwise_cons.2 ⟨?_,ihb hb'.2⟩
       intro z hz
       unfold zG at hz
       rcases List.mem_merge.1 hz with hz | hz
       · rcases List.mem_cons.1 hz with rfl | hz
         · omega
         · have:=ha'.1 z hz; omega
       · exact hb'.1 z hz
theorem Jg : ∀ {l:List Coin} {z:Coin},z∈yx l → ∃ a b,a∈l∧b∈l∧z = .pack a b
 | a::b::r,z,h=>by
   rcases List.mem_cons.1 h with rfl | h
   · exact ⟨a,b,by simp,by simp,rfl⟩
   · obtain ⟨c,d,h1,h2,h3⟩:=Jg h
     exact ⟨c,d,by simp [h1],by simp [h2],h3⟩
theorem kN : ∀ {l:List Coin},vF l→vF (yx l)
 | [],_=>List.Pairwise.nil
 | [_],_=>List.Pairwise.nil
 | a::b::r,h=>by
   have h1:=List.pairwise_cons.1 h
   have h2:=List.pairwise_cons.1 h1.2
   refine List.pairwise_cons.2 ⟨?_,kN h2.2⟩
   intro z hz
   obtain ⟨c,d,hc,hd,rfl⟩:=Jg hz
   have e1:=h1.1 c (by simp [hc])
   have e2:=h2.1 d hd
   show a.w+b.w≤c.w+d.w
   omega
theorem QE {lv:List Coin} (h:vF lv) : ∀ j,vF (zQ lv j)
 | 0=>List.Pairwise.nil
 | j+1=>zaH h (kN (QE h j))
theorem Jz : ∀ (p:Nat) (l:List Coin),2*p≤l.length→yK ((yx l).take p)=yK (l.take (2*p))∧(∀ s,jH s ((yx l).take p)=jH s (l.take (2*p))) ∧ ∀ x∈l.take (2*p),∃ y∈(yx l).take p,x.w≤y.w
 | 0,l,_=>by simp [yK,jH]
 | p+1,l,h=>by
   match l,h with
   | a::b::r,h =>
     have hr:2*p≤r.length:=by simp at h; omega
     obtain ⟨h1,h2,h3⟩:=Jz p r hr
     have e:2*(p+1)=2*p+1+1:=by omega
     rw [e]
     simp only [yx,List.take_succ_cons,xx,Vi,h1,h2]
     refine ⟨by show a.w+b.w+_=_; omega,fun s=>by show a.cnt s+b.cnt s+_=_; omega,?_⟩
     intro x hx
     rcases List.mem_cons.1 hx with rfl | hx
     · exact ⟨_,List.mem_cons_self,by show x.w≤x.w+b.w; omega⟩
     · rcases List.mem_cons.1 hx with rfl | hx
       · exact ⟨_,List.mem_cons_self,by show x.w≤a.w+x.w; omega⟩
       · obtain ⟨y,hy,hxy⟩:=h3 x hx
         exact ⟨y,List.mem_cons_of_mem _ hy,hxy⟩
theorem WN : ∀ (a b:List Coin) (c:Nat),vF a→c≤a.length+b.length →
 ∃ t,t≤c∧t≤a.length∧c-t≤b.length∧((zG a b).take c).Perm (a.take t++b.take (c-t))∧(∀ (h:t<a.length),∀ y∈b.take (c-t),y.w<a[t].w):=by
 intro a
 induction a with
 | nil =>
   intro b c _ hc
   refine ⟨0,by omega,by simp,by simpa using hc,?_,fun h=>by simp at h⟩
   rw [ve]; simp
 | cons x a iha =>
   intro b
   induction b with
   | nil =>
     intro c ha hc
     refine ⟨c,by omega,by simpa using hc,by simp,?_,?_⟩
     · rw [js]; simp
     · intro h y hy; simp at hy
   | cons y b ihb =>
     intro c ha hc
     have ha':=List.pairwise_cons.1 ha
     cases c with
     | zero=>exact ⟨0,by omega,by omega,by omega,by simp,fun h y hy=>by simp at hy⟩
     | succ c =>
       rw [kd]
       by_cases hxy:x.w≤y.w
       · rw [if_pos hxy]
         obtain ⟨t,h1,h2,h3,h4,h5⟩:=iha (y::b) c ha'.2 (by simp at hc ⊢; omega)
         refine ⟨t+1,by omega,by simp; omega,by rw [Nat.add_sub_add_right]; exact h3,?_,?_⟩
         · rw [List.take_succ_cons,List.take_succ_cons,Nat.add_sub_add_right]
           exact List.Perm.cons x h4
         · intro h z hz
           rw [Nat.add_sub_add_right] at hz
           exact h5 (by simpa using h) z hz
       · rw [if_neg hxy]
         obtain ⟨t,h1,h2,h3,h4,h5⟩:=ihb c ha (by simp at hc ⊢; omega)
         have e:c+1-t=(c-t)+1:=by omega
         refine ⟨t,by omega,h2,by rw [e]; simp; omega,?_,?_⟩
         · rw [e,List.take_succ_cons,List.take_succ_cons]
           exact (List.Perm.cons y h4).trans List.perm_middle.symm
         · intro h z hz
           rw [e,List.take_succ_cons] at hz
           rcases List.mem_cons.1 hz with rfl | hz
           · have:x.w≤(x::a)[t].w:=by
              cases t with
              | zero=>exact Nat.le_refl _
              | succ t=>exact ha'.1 _ (List.getElem_mem ..)
             omega
           · exact h5 h z hz
theorem JX : ∀ (a b:List Coin) (i k:Nat),vF a→vF b→i≤a.length→k≤b.length→yK ((zG a b).take (i+k))≤yK (a.take i)+yK (b.take k):=by
 intro a
 induction a with
 | nil =>
   intro b i k _ _ hi hk
   have:i=0:=by simpa using hi
   subst this
   rw [ve]; simp [yK]
 | cons x a iha =>
   intro b
   induction b with
   | nil =>
     intro i k _ _ hi hk
     have:k=0:=by simpa using hk
     subst this
     rw [js]; simp
   | cons y b ihb =>
     intro i k ha hb hi hk
     have ha':=List.pairwise_cons.1 ha
     have hb':=List.pairwise_cons.1 hb
     rw [kd]
     by_cases hxy:x.w≤y.w
     · rw [if_pos hxy]
       cases i with
       | succ i =>
         rw [show i+1+k=(i+k)+1 by omega,List.take_succ_cons,List.take_succ_cons,xx,xx]
         have:=iha (y::b) i k ha'.2 hb (by simpa using hi) hk
         omega
       | zero =>
         cases k with
         | zero=>simp [yK]
         | succ k =>
           rw [Nat.zero_add,List.take_succ_cons,xx]
           have h1:=iha (y::b) 0 k ha'.2 hb (by omega) (by omega)
           rw [Nat.zero_add] at h1
           have hk':k<(y::b).length:=by omega
           have h2:yK ((y::b).take (k+1))=yK ((y::b).take k)+(y::b)[k].w:=by
            rw [List.take_succ_eq_append_getElem hk',jg]; simp [yK]
           have h3:y.w≤(y::b)[k].w:=by
            cases k with
            | zero=>exact Nat.le_refl _
            | succ k=>exact hb'.1 _ (List.getElem_mem ..)
           rw [h2]
           simp only [List.take_zero] at h1 ⊢
           omega
     · rw [if_neg hxy]
       cases k with
       | succ k =>
         rw [show i+(k+1)=(i+k)+1 by omega,List.take_succ_cons,List.take_succ_cons,xx,xx]
         have:=ihb i k ha hb'.2 hi (by simpa using hk)
         omega
       | zero =>
         cases i with
         | zero=>simp [yK]
         | succ i =>
           rw [Nat.add_zero,List.take_succ_cons,xx]
           have h1:=ihb i 0 ha hb'.2 (by omega) (by omega)
           rw [Nat.add_zero] at h1
           have hi':i<(x::a).length:=by omega
           have h2:yK ((x::a).take (i+1))=yK ((x::a).take i)+(x::a)[i].w:=by
            rw [List.take_succ_eq_append_getElem hi',jg]; simp [yK]
           have h3:x.w≤(x::a)[i].w:=by
            cases i with
            | zero=>exact Nat.le_refl _
            | succ i=>exact ha'.1 _ (List.getElem_mem ..)
           rw [h2]
           simp only [List.take_zero] at h1 ⊢
           omega
theorem ZE (lv:List Coin) : ∀ (j x:Nat),x*2^j≤2*lv.length*(2^j-1)→x≤(zQ lv j).length
 | 0,x,h=>by simp at h; omega
 | j+1,x,h=>by
   show x≤(zG lv (yx (zQ lv j))).length
   rw [qU,yP]
   by_cases hx:x≤lv.length
   · omega
   · have hp:0<2^j:=Nat.two_pow_pos j
     have:=ZE lv j (2*(x-lv.length)) (by
      rw [Nat.pow_succ] at h
      generalize 2^j=p at *
      obtain ⟨y,rfl⟩ : ∃ y,x=lv.length+y:=⟨x-lv.length,by omega⟩
      obtain ⟨q,rfl⟩ : ∃ q,p=q+1:=⟨p-1,by omega⟩
      generalize lv.length=n at *
      have e1:n+y-n=y:=by omega
      rw [e1]
      have e2:q+1-1=q:=by omega
      rw [e2]
      have e3:(q+1)*2-1=2*q+1:=by omega
      rw [e3] at h
      simp only [Nat.mul_add,Nat.add_mul,Nat.mul_one,Nat.one_mul] at h ⊢
      have p1:2*y*q=2*(y*q):=Nat.mul_assoc ..
      have p2:2*n*q=2*(n*q):=Nat.mul_assoc ..
      have p3:n*(q*2)=2*(n*q):=by rw [← Nat.mul_assoc,Nat.mul_comm]
      have p4:y*(q*2)=2*(y*q):=by rw [← Nat.mul_assoc,Nat.mul_comm]
      have p5:2*n*(2*q)=4*(n*q):=by
       rw [Nat.mul_assoc,Nat.mul_left_comm n 2 q]; omega
      rw [p3,p4,p5] at h
      rw [p1,p2]
      omega)
     omega
def amt:List Nat→Nat
 | []=>0
 | t::ts=>t*2^ts.length+amt ts
theorem Va (lv:List Coin) (hr:vF lv) : ∀ (j c:Nat),c≤(zQ lv j).length →
 ∃ ts:List Nat,ts.length=j∧(∀ t∈ts,t≤lv.length)∧ts.Pairwise (fun a b=>b≤a)∧2*amt ts=c*2^j ∧
  yK ((zQ lv j).take c)=(ts.map fun t=>yK (lv.take t)).sum∧(∀ s,jH s ((zQ lv j).take c)=(ts.map fun t=>jH s (lv.take t)).sum) ∧
  (∀ t,ts.head? =some t → ∀ x∈lv.take t,x∈(zQ lv j).take c)
 | 0,c,h=>by
   have:c=0:=by simpa [zQ] using h
   subst this
   exact ⟨[],rfl,by simp,List.Pairwise.nil,by simp [amt],by simp [yK],by simp [jH],by simp⟩
 | j+1,c,h=>by
   have h':c≤lv.length+(yx (zQ lv j)).length:=by
    have e:(zQ lv (j+1)).length=_:=qU lv (yx (zQ lv j))
    omega
   obtain ⟨t,h1,h2,h3,h4,h5⟩:=WN lv (yx (zQ lv j)) c hr h'
   have h3':2*(c-t)≤(zQ lv j).length:=by rw [yP] at h3; omega
   obtain ⟨ts,k1,k2,k3,k4,k5,k6,k7⟩:=Va lv hr j (2*(c-t)) h3'
   obtain ⟨q1,q2,q3⟩:=Jz (c-t) (zQ lv j) h3'
   refine ⟨t::ts,by simp [k1],?_,?_,?_,?_,?_,?_⟩
   · intro x hx
     rcases List.mem_cons.1 hx with rfl | hx
     · exact h2
     · exact k2 x hx
   · refine List.pairwise_cons.2 ⟨?_,k3⟩
     have hh : ∀ u,ts.head? =some u→u≤t:=by
      intro u hu
      apply Nat.le_of_not_lt
      intro hlt
      have hul:u≤lv.length:=k2 u (List.mem_of_mem_head? hu)
      have ht:t<lv.length:=by omega
      have hm:lv[t]∈lv.take u:=by
       rw [List.mem_take_iff_getElem]
       exact ⟨t,by omega,rfl⟩
      obtain ⟨y,hy,hyw⟩:=q3 _ (k7 u hu _ hm)
      have:=h5 ht y hy
      omega
     intro b hb
     cases ts with
     | nil=>simp at hb
     | cons u r =>
       have hu:=hh u rfl
       rcases List.mem_cons.1 hb with rfl | hb
       · exact hu
       · exact Nat.le_trans ((List.pairwise_cons.1 k3).1 b hb) hu
   · have e1:2*amt (t::ts)=2*(t*2^j)+2*amt ts:=by simp only [amt,k1]; omega
     rw [e1,k4,Nat.pow_succ]
     obtain ⟨d,rfl⟩ : ∃ d,c=t+d:=⟨c-t,by omega⟩
     rw [show t+d-t=d by omega]
     simp only [Nat.add_mul]
     have p1:t*(2^j*2)=2*(t*2^j):=by rw [← Nat.mul_assoc,Nat.mul_comm]
     have p2:d*(2^j*2)=2*(d*2^j):=by rw [← Nat.mul_assoc,Nat.mul_comm]
     have p3:2*d*2^j=2*(d*2^j):=Nat.mul_assoc ..
     omega
   · show yK ((zG lv (yx (zQ lv j))).take c)=_
     rw [ze1 h4,jg,q1,k5]
     simp
   · intro s
     show jH s ((zG lv (yx (zQ lv j))).take c)=_
     rw [zeo h4,zaq,q2,k6]
     simp
   · intro u hu x hx
     simp at hu
     subst hu
     exact h4.symm.mem_iff.1 (List.mem_append.2 (.inl hx))
theorem VP (lv:List Coin) (hr:vF lv) : ∀ (zs0:List (Nat×Nat)) (c:Nat),(∀ p∈zs0,p.1≤lv.length∧yK (lv.take p.1)≤p.2)→c*2^zs0.length≤2*amt (zs0.map Prod.fst) →
 c≤(zQ lv zs0.length).length∧yK ((zQ lv zs0.length).take c)≤(zs0.map Prod.snd).sum
 | [],c,_,h=>by
   have:c=0:=by simpa [amt] using h
   subst this
   simp [yK]
 | (a,x)::zs0,c,hp,h=>by
   obtain ⟨ha,hx⟩:=hp (a,x) List.mem_cons_self
   have ha:a≤lv.length:=ha
   have hx:yK (lv.take a)≤x:=hx
   have hl:((a,x)::zs0).length=zs0.length+1:=rfl
   rw [hl] at h ⊢
   have hmap:amt (((a,x)::zs0).map Prod.fst)=a*2^zs0.length+amt (zs0.map Prod.fst):=by simp [amt]
   rw [hmap,Nat.pow_succ] at h
   show c≤(zG lv (yx (zQ lv zs0.length))).length∧yK ((zG lv (yx (zQ lv zs0.length))).take c)≤x+(zs0.map Prod.snd).sum
   rw [qU]
   by_cases hac:c≤a
   · refine ⟨by omega,?_⟩
     have h1:=JX lv (yx (zQ lv zs0.length)) c 0 hr (kN (QE hr _)) (by omega) (by omega)
     have h2:yK (lv.take c)≤yK (lv.take a):=by
      obtain ⟨d,rfl⟩ : ∃ d,a=c+d:=⟨a-c,by omega⟩
      rw [List.take_add,jg]
      omega
     simp [yK] at h1 h2 hx ⊢
     omega
   · obtain ⟨d,rfl⟩ : ∃ d,c=a+d:=⟨c-a,by omega⟩
     have hih:(2*d)*2^zs0.length≤2*amt (zs0.map Prod.fst):=by
      have p1:(a+d)*(2^zs0.length*2)=2*(a*2^zs0.length)+2*(d*2^zs0.length):=by
       rw [← Nat.mul_assoc,Nat.add_mul]; omega
      have p3:2*d*2^zs0.length=2*(d*2^zs0.length):=Nat.mul_assoc ..
      omega
     obtain ⟨i1,i2⟩:=VP lv hr zs0 (2*d) (fun p hq=>hp p (List.mem_cons_of_mem _ hq)) hih
     obtain ⟨q1,_,_⟩:=Jz d (zQ lv zs0.length) i1
     have hd:d≤(yx (zQ lv zs0.length)).length:=by rw [yP]; omega
     have h1:=JX lv (yx (zQ lv zs0.length)) a d hr (kN (QE hr _)) ha hd
     refine ⟨by omega,?_⟩
     omega
end Go.Proofs.YtfkcdnaghndgfaaGreatDoor
