/- The law swinglelaw22.EntryBack: its walk. -/
import Derived.Test.YtfkcdnaghndgfaaGreatDoorQBX
set_option linter.unusedVariables false
set_option linter.unusedSimpArgs false
set_option linter.unusedSectionVars false
namespace Go.Proofs.YtfkcdnaghndgfaaGreatDoor
open Go.RowKit
set_option maxRecDepth 100000 in
set_option maxHeartbeats 12800000 in
theorem YI (p:ByteArray) (k m:Int) (t:Nat) (D A0 B0:ByteArray) (w:World) (hp0:p.size≤9223372036854775807) (ht:t<4294967296) (hD0:D.size≤9223372036854775807) (hA0:A0.size≤9223372036854775807) (hB0:B0.size≤9223372036854775807) :
 Calls Tryz.prog 5 #[.agg #[.string p,.int .i64 k,.int .i64 m,.int .u32 (t:Nat),.string D],.string A0,.string B0] w fun e w'=>e = .returned (.bool true)∧Upd [] w w':=by
 obtain ⟨n1,hn1⟩ : ∃ n,n=min A0.size 100:=⟨_,rfl⟩
 obtain ⟨n2,hn2⟩ : ∃ n,n=min B0.size 100:=⟨_,rfl⟩
 have e1:min (A0.size:Int) 100=(n1:Int):=by omega
 have e2:min (B0.size:Int) 100=(n2:Int):=by omega
 have b1:n1≤A0.size:=by omega
 have b2:n2≤B0.size:=by omega
 obtain ⟨A,hA⟩ : ∃ A,A0.extract 0 n1=A:=⟨_,rfl⟩
 obtain ⟨B,hB⟩ : ∃ B,B0.extract 0 n2=B:=⟨_,rfl⟩
 have hAs:A.size≤100:=by rw [← hA,ByteArray.size_extract]; omega
 have hBs:B.size≤100:=by rw [← hB,ByteArray.size_extract]; omega
 have HAE:=Lib.hid hA
 have HBE:=Lib.hid hB
 clear hA hB hn1 hn2
 have HLV:=Lib.hid zau
 have HI:=Lib.hid (Blk.new w [.string p,.int .i64 k,.int .i64 m,.int .u32 (t:Nat),.string D] 43)
 have HU:=Lib.hid ((Upd.refl [] w).alloc (.cells #[.string p,.int .i64 k,.int .i64 m,.int .u32 (t:Nat),.string D] 43))
 go_enter Tryz.func5,Tryz.ntmps5
 go_upto_region 1 with fail
 change Code.wp _ _ _ _ (w.alloc (.cells #[.string p,.int .i64 k,.int .i64 m,.int .u32 (t:Nat),.string D] 43))
 generalize w.alloc (.cells #[.string p,.int .i64 k,.int .i64 m,.int .u32 (t:Nat),.string D] 43)=w1 at *
 generalize w.heap.size=g at *
 go_cut [1,2] (fun s1 s2 wx=>s1 = .string A∧s2 = .string B∧Blk wx g [.string p,.int .i64 k,.int .i64 m,.int .u32 (t:Nat),.string D] 43∧Upd [] w wx)
 case first =>
  refine wp_region_held_drew (S:=fun w'=>Blk w' g [.string p,.int .i64 k,.int .i64 m,.int .u32 (t:Nat),.string D] 43∧Upd [] w w') (by kernel_rfl) ⟨HI.out.drew,HU.out.drew⟩ (fun hHeld=>hdN ?_)
  refine hdT 0 (some 20) ?_; refine hdT 1 (some 21) ?_; refine hdT 2 (some 22) ?_; refine hdT 3 (some 23) ?_
  refine hdT 4 (some 24) ?_ (hy:=by intro w0 hSw; clear hSw; go_simp; rw [HAE.out]) (v := .string A); refine hdT 5 (some 25) ?_
  refine hdT 6 (some 26) ?_; refine hdT 7 (some 27) ?_; refine hdT 8 (some 28) ?_
  refine hdT 9 (some 29) ?_ (hy:=by intro w0 hSw; clear hSw; go_simp; rw [HBE.out]) (v := .string B); refine hdT 10 (some 1) ?_
  refine hdT 11 (some 2) ?_
  refine wpAnyH_done (by kernel_rfl) ?_ 0
  go_wp2
  go_meet
  exact ⟨rfl,rfl,hHeld.1,hHeld.2⟩
 case rest =>
 obtain ⟨rfl,rfl,hI,hU⟩:=hcut
 clear e1 e2 b1 b2 HAE HBE HI HU
 have HI:=Lib.hid hI
 have HU:=Lib.hid hU
 clear hI hU
 have iA:=HI.out.all
 rcases (by omega:300<p.size∨(¬ 300<p.size∧600<D.size)∨(¬ 300<p.size ∧ ¬ 600<D.size)) with h1 | ⟨h1,h2⟩ | ⟨h1,h2⟩
 iterate 2
  · have hq:=h1
    go_wp2_with fail
    refine (HLV.out _).mono ?_
    rintro e w2 ⟨rfl,hu⟩
    go_wp2
    go_returns
    exact ⟨rfl,HU.out.then hu⟩
 have HLY:=Lib.hid (fun z=>zhW p k m t D 5 z (by omega) ht (by omega) (by decide))
 unfold Qe at HLY
 go_wp2_with fail
 refine (HLY.out _).mono ?_
 rintro e w2 ⟨⟨rp,rm,rsum,rl,rwh,rk,rmd,rt,rpos⟩,s,rfl,hL,hu⟩
 unfold RecD.v
 dsimp only
 have HL:=Lib.hid hL
 have HI0:=HI
 have HU0:=HU
 have HI:=Lib.hid ((HI.out.upd hu (by simp)).alloc (.cells #[.string rp,.int .i64 rm,.int .u32 (rsum:Nat),.int .i64 rl,.int .i64 rwh,.int .i64 rk,.int .i64 rmd,.int .u32 (rt:Nat),.int .i64 rpos] 26))
 have HU:=Lib.hid ((HU.out.then hu).alloc (.cells #[.string rp,.int .i64 rm,.int .u32 (rsum:Nat),.int .i64 rl,.int .i64 rwh,.int .i64 rk,.int .i64 rmd,.int .u32 (rt:Nat),.int .i64 rpos] 26))
 have HC:=Lib.hid (Blk.new w2 [.string rp,.int .i64 rm,.int .u32 (rsum:Nat),.int .i64 rl,.int .i64 rwh,.int .i64 rk,.int .i64 rmd,.int .u32 (rt:Nat),.int .i64 rpos] 26)
 have HCG:Hid (w2.heap.size≠g∧w.heap.size≤w2.heap.size):=Lib.hid ⟨by have:=HI0.out.upd hu (by simp); have:=Blk.lt this; omega,(HU0.out.then hu).size⟩
 clear hL hu iA HLY HI0 HU0
 go_upto_region 5 with fail
 change Code.wp _ _ _ _ (w2.alloc (.cells #[.string rp,.int .i64 rm,.int .u32 (rsum:Nat),.int .i64 rl,.int .i64 rwh,.int .i64 rk,.int .i64 rmd,.int .u32 (rt:Nat),.int .i64 rpos] 26))
 generalize w2.alloc (.cells #[.string rp,.int .i64 rm,.int .u32 (rsum:Nat),.int .i64 rl,.int .i64 rwh,.int .i64 rk,.int .i64 rmd,.int .u32 (rt:Nat),.int .i64 rpos] 26)=w3 at *
 generalize w2.heap.size=c at *
 by_cases h0:yZ p k m t D=0
 rotate_left
 · obtain ⟨hr,hs⟩:=HL.out.1 h0
   subst hs
   have e1:(((yZ p k m t D:Nat):Int) != 0)=true:=by rw [bne_iff_ne]; omega
   generalize yZ p k m t D=WY at *
   clear HL h0 hr
   go_wp2_with fail
   refine (HLV.out _).mono ?_
   rintro e w5 ⟨rfl,hu⟩
   go_wp2
   go_returns
   exact ⟨rfl,HU.out.then hu⟩
 obtain ⟨X,hX,hs⟩:=HL.out.2 h0
 rw [h0]
 clear h0
 have hXs:X.size≤600:=by
  by_cases hk:k=1
  · rcases (hX.file hk).2.2 with ⟨_,h⟩ | ⟨_,h,_⟩
    · rw [h]; omega
    · omega
  · rw [(hX.dir hk).2.2.2.1]; decide
 have hnl:=xW k p
 have hsz:30≤s.size∧s.size≤1000:=by
  rw [hs,ByteArray.size_append,zu,yE,hX.hk,hX.hp]; omega
 obtain ⟨n3,hn3⟩ : ∃ n3,s.size=n3+1:=⟨s.size-1,by omega⟩
 obtain ⟨c2,hc2⟩ : ∃ c2,(rsum+1)%4294967296=c2:=⟨_,rfl⟩
 have hsu:rsum<4294967296:=hX.fits.sum
 have hrt:rt<4294967296:=hX.fits.t
 have hc3:c2≠rsum:=by omega
 have q1:=zcr hX A B (by omega) (by omega)
 have q2:=Vf hX A B (by omega) (by omega)
 obtain ⟨ec,hec,q3⟩:=Wm hX A B c2 hc3
 have q4:=zdH hX A (by omega)
 rw [← hs] at q1 q2 q3 q4
 rw [show s.size-1=n3 by omega] at q4
 have hz1:(A++s++B).size≤1000000:=by simp only [ByteArray.size_append]; omega
 have hz2:(A++s.extract 0 n3).size≤1000000:=by rw [ByteArray.size_append,ByteArray.size_extract]; omega
 have HM0:=fun z=>zbg ⟨rp,rm,rsum,rl,rwh,rk,rmd,rt,rpos⟩ (A.size:Nat) z
 have HN1:=fun z=>QB (A++s++B) (RecD.to ⟨rp,rm,rsum,rl,rwh,rk,rmd,rt,rpos⟩ (A.size:Nat)) z hz1 ⟨hX.fits.p,hX.fits.sum,hX.fits.t⟩
 have HD1:=fun z=>WF (A++s++B) (RecD.to ⟨rp,rm,rsum,rl,rwh,rk,rmd,rt,rpos⟩ (A.size:Nat)) z hz1 ⟨hX.fits.p,hX.fits.sum,hX.fits.t⟩
 have HN2:=fun z=>QB (A++s++B) ⟨rp,rm,c2,rl,rwh,rk,rmd,rt,(A.size:Nat)⟩ z hz1 ⟨hX.fits.p,(by dsimp only; omega),hrt⟩
 have HN3:=fun z=>QB (A++s.extract 0 n3) (RecD.to ⟨rp,rm,rsum,rl,rwh,rk,rmd,rt,rpos⟩ (A.size:Nat)) z hz2 ⟨hX.fits.p,hX.fits.sum,hX.fits.t⟩
 dsimp only at q3
 rw [q1] at HN1
 rw [q2] at HD1
 rw [q3] at HN2
 rw [q4] at HN3
 obtain ⟨-,-,e1,e2,e3,e4,e5,e6,-,-⟩:=hX
 dsimp only at e1 e2 e3 e4 e5 e6
 have e1:=e1.symm
 have e2:=e2.symm
 have e3:=e3.symm
 subst e1 e2 e3 e4 e5 e6
 unfold RecD.to RecD.v at HM0 HN1 HD1 HN3
 unfold RecD.v at HN2
 unfold zga Qe at HN1 HN2 HN3
 unfold zf1 at HD1
 dsimp only at HM0 HN1 HD1 HN2 HN3
 have HM:=Lib.hid HM0
 have HN1:=Lib.hid HN1
 have HD1:=Lib.hid HD1
 have HN2:=Lib.hid HN2
 have HN3:=Lib.hid HN3
 have hse:(s.toList==[])=false:=by
  rw [beq_eq_false_iff_ne]
  intro h
  rw [ByteArray.toList_eq] at h
  have h2:=congrArg List.length h
  rw [Array.length_toList,show s.data.size=s.size from rfl] at h2
  simp only [List.length_nil] at h2
  omega
 have HS1:Hid (IntKind.i64.wrap ((s.size:Int)-1)=(n3:Int)):=Lib.hid (by rw [IntWalk.i64_in _ (by omega)]; omega)
 have HSU:Hid (IntKind.u32.wrap ((rsum:Int)+1)=(c2:Int)):=Lib.hid (by rw [IntKind.wrap_u32]; omega)
 have hle3:n3≤s.size:=by omega
 obtain ⟨CU,hCU⟩ : ∃ CU,s.extract 0 n3=CU:=⟨_,rfl⟩
 rw [hCU] at HN3
 have hcz:CU.size≤1000:=by rw [← hCU,ByteArray.size_extract]; omega
 have HCU:=Lib.hid hCU
 have za : ∀ w,(Op.stringOp .add A s).run Tryz.prog w = .ok (.string (A++s)) w:=fun w=>run_string_add_sum w A s (by omega)
 have zb : ∀ w,(Op.stringOp .add (A++s) B).run Tryz.prog w = .ok (.string (A++s++B)) w:=fun w=>run_string_add_sum w _ _ (by rw [ByteArray.size_append]; omega)
 have HEC:=Lib.hid hec
 clear q1 q2 q3 q4 hs HL HM0 hCU hz1 hz2 hnl hc2 hc3 hec
 have cA:=HC.out.all
 go_wp2_with fail
 refine (HM.out _).mono ?_
 rintro e w4 ⟨rfl,hu⟩
 have HI:=Lib.hid (HI.out.upd hu (by simp))
 have HC:=Lib.hid (HC.out.upd hu (by simp))
 have HU:=Lib.hid (HU.out.then hu)
 have hcg:c≠g∧w.heap.size≤c:=HCG.out
 clear hu cA HM
 have cA:=HC.out.all
 have fA:=HC.out.frz
 have HI2:=Lib.hid (Blk.far9 HI.out (Ne.symm hcg.1) (.string p) (.int .i64 rm) (.int .u32 (rsum:Nat)) (.int .i64 (X.size:Nat)) (.int .i64 (D.size:Nat)) (.int .i64 k) (.int .i64 m) (.int .u32 (rt:Nat)) (.int .i64 (A.size:Nat)))
 have HC2:=Lib.hid (Blk.set9 HC.out (.string p) (.int .i64 rm) (.int .u32 (rsum:Nat)) (.int .i64 (X.size:Nat)) (.int .i64 (D.size:Nat)) (.int .i64 k) (.int .i64 m) (.int .u32 (rt:Nat)) (.int .i64 (A.size:Nat)))
 have HU2:=Lib.hid (Upd.set9 HU.out (.inr hcg.2) (.string p) (.int .i64 rm) (.int .u32 (rsum:Nat)) (.int .i64 (X.size:Nat)) (.int .i64 (D.size:Nat)) (.int .i64 k) (.int .i64 m) (.int .u32 (rt:Nat)) (.int .i64 (A.size:Nat)))
 go_upto_region 10 with fail
 clear cA fA HI HC HU
 generalize ((((((((w4.setCell ⟨c,0,none⟩ (.string p)).setCell ⟨c,1,none⟩ (.int .i64 rm)).setCell ⟨c,2,none⟩ (.int .u32 (rsum:Nat))).setCell ⟨c,3,none⟩ (.int .i64 (X.size:Nat))).setCell ⟨c,4,none⟩ (.int .i64 (D.size:Nat))).setCell ⟨c,5,none⟩ (.int .i64 k)).setCell ⟨c,6,none⟩ (.int .i64 m)).setCell ⟨c,7,none⟩ (.int .u32 (rt:Nat))).setCell ⟨c,8,none⟩ (.int .i64 (A.size:Nat))=w5 at *
 have cA:=HC2.out.all
 have iA:=HI2.out.all
 go_wp2_with fail
 refine (HN1.out _).mono ?_
 rintro e w6 ⟨rfl,hu⟩
 have HI:=Lib.hid ((HI2.out.upd hu (by simp)).alloc (.cells #[.int .i64 k,.int .i64 m,.int .u32 (t:Nat),.string D] 24))
 have HC:=Lib.hid ((HC2.out.upd hu (by simp)).alloc (.cells #[.int .i64 k,.int .i64 m,.int .u32 (t:Nat),.string D] 24))
 have HU:=Lib.hid ((HU2.out.then hu).alloc (.cells #[.int .i64 k,.int .i64 m,.int .u32 (t:Nat),.string D] 24))
 have HV:=Lib.hid (Blk.new w6 [.int .i64 k,.int .i64 m,.int .u32 (t:Nat),.string D] 24)
 clear hu cA iA HN1 HI2 HC2 HU2
 go_upto_region 11 with fail
 change Code.wp _ _ _ _ (w6.alloc (.cells #[.int .i64 k,.int .i64 m,.int .u32 (t:Nat),.string D] 24))
 generalize w6.alloc (.cells #[.int .i64 k,.int .i64 m,.int .u32 (t:Nat),.string D] 24)=w7 at *
 generalize w6.heap.size=v at *
 have cA:=HC.out.all
 go_wp2_with fail
 refine (HD1.out _).mono ?_
 rintro e w8 ⟨rfl,hu⟩
 have HI:=Lib.hid (HI.out.upd hu (by simp))
 have HC:=Lib.hid (HC.out.upd hu (by simp))
 have HV:=Lib.hid (HV.out.upd hu (by simp))
 have HU:=Lib.hid (HU.out.then hu)
 clear hu cA HD1
 have iA:=HI.out.all
 have vA:=HV.out.all
 have cA:=HC.out.all
 have HO:=Lib.hid (Blk.new w8 [.string p,.int .i64 rm,.int .u32 (rsum:Nat),.int .i64 (X.size:Nat),.int .i64 (D.size:Nat),.int .i64 k,.int .i64 m,.int .u32 (rt:Nat),.int .i64 (A.size:Nat)] 26)
 have HC:=Lib.hid (HC.out.alloc (.cells #[.string p,.int .i64 rm,.int .u32 (rsum:Nat),.int .i64 (X.size:Nat),.int .i64 (D.size:Nat),.int .i64 k,.int .i64 m,.int .u32 (rt:Nat),.int .i64 (A.size:Nat)] 26))
 have HU:=Lib.hid (HU.out.alloc (.cells #[.string p,.int .i64 rm,.int .u32 (rsum:Nat),.int .i64 (X.size:Nat),.int .i64 (D.size:Nat),.int .i64 k,.int .i64 m,.int .u32 (rt:Nat),.int .i64 (A.size:Nat)] 26))
 have hcw:c<w8.heap.size∧w.heap.size≤w8.heap.size:=⟨Blk.lt (by assumption),(by assumption:Upd [] w w8).size⟩
 go_upto_region 15 with fail
 change Code.wp _ _ _ _ (w8.alloc (.cells #[.string p,.int .i64 rm,.int .u32 (rsum:Nat),.int .i64 (X.size:Nat),.int .i64 (D.size:Nat),.int .i64 k,.int .i64 m,.int .u32 (rt:Nat),.int .i64 (A.size:Nat)] 26))
 clear iA vA cA HV HI
 generalize w8.alloc (.cells #[.string p,.int .i64 rm,.int .u32 (rsum:Nat),.int .i64 (X.size:Nat),.int .i64 (D.size:Nat),.int .i64 k,.int .i64 m,.int .u32 (rt:Nat),.int .i64 (A.size:Nat)] 26)=w9 at *
 generalize w8.heap.size=o at *
 have oA:=HO.out.all
 have fA:=HO.out.frz
 have hsu1:=HSU.out
 have HO2:Hid (Blk (w9.setCell ⟨o,2,none⟩ (.int .u32 (c2:Nat))) o [.string p,.int .i64 rm,.int .u32 (c2:Nat),.int .i64 (X.size:Nat),.int .i64 (D.size:Nat),.int .i64 k,.int .i64 m,.int .u32 (rt:Nat),.int .i64 (A.size:Nat)] 26):=Lib.hid (HO.out.set 2 (.int .u32 (c2:Nat)))
 have HC2:=Lib.hid (HC.out.setFar (a:=⟨o,2,none⟩) (.int .u32 (c2:Nat)) (by show c≠o; omega))
 have HU2:=Lib.hid (HU.out.setCell (p:=⟨o,2,none⟩) (.inr hcw.2) (.int .u32 (c2:Nat)))
 go_upto_region 16 with fail
 clear oA fA hsu1 HO HC HU HSU
 generalize w9.setCell ⟨o,2,none⟩ (.int .u32 (c2:Nat))=w10 at *
 have oA:=HO2.out.all
 go_wp2_with fail
 refine (HN2.out _).mono ?_
 rintro e w11 ⟨rfl,hu⟩
 have HC:=Lib.hid ((HC2.out.upd hu (by simp)).alloc (.cells #[.int .i64 0,.int .i64 0,.int .u32 0,.string ⟨#[]⟩] 24))
 have HU:=Lib.hid ((HU2.out.then hu).alloc (.cells #[.int .i64 0,.int .i64 0,.int .u32 0,.string ⟨#[]⟩] 24))
 clear hu oA HN2 HC2 HU2 HO2 hcw hcg
 go_upto_region 17 with fail
 change Code.wp _ _ _ _ (w11.alloc (.cells #[.int .i64 0,.int .i64 0,.int .u32 0,.string ⟨#[]⟩] 24))
 generalize w11.alloc (.cells #[.int .i64 0,.int .i64 0,.int .u32 0,.string ⟨#[]⟩] 24)=w5 at *
 clear za zb
 go_cut [19] (fun s19 wx=>s19 = .int .i64 3∧Upd [] w5 wx)
 case first =>
  refine wp_region_held_drew (S:=fun w'=>Blk w' c [.string p,.int .i64 rm,.int .u32 (rsum:Nat),.int .i64 (X.size:Nat),.int .i64 (D.size:Nat),.int .i64 k,.int .i64 m,.int .u32 (rt:Nat),.int .i64 (A.size:Nat)] 26∧Upd [] w5 w') (by kernel_rfl) ⟨HC.out.drew,(Upd.refl _ _).drew⟩ (fun hHeld=>hdN ?_)
  refine hdT 0 (some 126) ?_; refine hdT 1 (some 127) ?_; refine hdT 2 (some 128) ?_; refine hdT 3 (some 129) ?_
  refine hdT 4 (some 130) ?_ (hy:=by intro w0 hSw; clear hSw; go_simp; all_goals exact IntWalk.i64_in _ (by omega)) (v := .int .i64 (n3:Nat))
  refine hdT 5 (some 131) ?_ (hy:=by intro w0 hSw; clear hSw; go_simp; rw [HCU.out,if_pos (by omega)]) (v := .string CU)
  refine hdT 6 (some 132) ?_ (hy:=by intro w0 hSw; clear hSw; go_simp; all_goals omega) (v := .string (A++CU))
  refine hdT 7 (some 133) ?_ (hy:=by intro w0 hSw; have cA:=hSw.1.all; go_simp; try with_reducible rfl)
  refine wpAnyH_ready (rs:=[8,12]) (by kernel_rfl) (by simp) ?_
  refine AllReadyH.cons rfl (fun K hK=>?_) (AllReadyH.cons rfl (fun K hK=>?_) AllReadyH.nil)
  · skip
    go_simp
    refine (HN3.out _).mono ?_
    rintro e z1 ⟨rfl,hz1⟩
    go_wp2
    refine hK.out _ _ ⟨hHeld.1.upd hz1 (by simp),hHeld.2.then hz1⟩ (fun hHeld=>hdN ?_)
    clear hK K
    refine hdT 9 (some 125) ?_; refine hdT 10 (some 135) ?_; refine hdT 11 (some 136) ?_
    refine hdO 12 (fun K hK=>?_)
    go_simp
    have hV:Blk (z1.alloc (.cells #[.int .i64 0,.int .i64 0,.int .u32 0,.string .empty] 24)) z1.heap.size [.int .i64 0,.int .i64 0,.int .u32 0,.string .empty] 24:=Blk.new z1 [.int .i64 0,.int .i64 0,.int .u32 0,.string .empty] 24
    have vA:=hV.all
    have fA:=hV.frz
    have hcv:c<z1.heap.size:=Blk.lt hHeld.1
    have hwv:w5.heap.size≤z1.heap.size:=hHeld.2.size
    go_wp2
    refine hK.out _ _ ⟨hHeld.1.alloc _,hHeld.2.alloc _⟩ (fun hHeld=>hdN ?_)
    clear hK K
    refine hdO 13 (fun K hK=>?_)
    go_simp
    go_wp2
    refine hK.out _ _ hHeld (fun hHeld=>hdN ?_)
    clear hK K
    refine hdT 14 (some 19) ?_
    refine wpAnyH_done (by kernel_rfl) ?_ 0
    go_wp2
    go_meet
    exact ⟨rfl,hHeld.2⟩
  · skip
    go_simp
    have hV:Blk (w5.drew.alloc (.cells #[.int .i64 0,.int .i64 0,.int .u32 0,.string .empty] 24)) w5.heap.size [.int .i64 0,.int .i64 0,.int .u32 0,.string .empty] 24:=Blk.new w5.drew [.int .i64 0,.int .i64 0,.int .u32 0,.string .empty] 24
    have vA:=hV.all
    have fA:=hV.frz
    have hcv:c<w5.heap.size:=Blk.lt hHeld.1
    have hwv:w5.heap.size≤w5.heap.size:=hHeld.2.size
    go_wp2
    refine hK.out _ _ ⟨hHeld.1.alloc _,hHeld.2.alloc _⟩ (fun hHeld=>hdN ?_)
    clear hK K
    refine hdO 8 (fun K hK=>?_)
    go_simp
    refine (HN3.out _).mono ?_
    rintro e z1 ⟨rfl,hz1⟩
    have hV:=hV.upd hz1 (by simp)
    have vA:=hV.all
    have fA:=hV.frz
    go_wp2
    refine hK.out _ _ ⟨hHeld.1.upd hz1 (by simp),hHeld.2.then hz1⟩ (fun hHeld=>hdN ?_)
    clear hK K
    refine hdT 9 (some 125) ?_; refine hdT 10 (some 135) ?_; refine hdT 11 (some 136) ?_
    refine hdO 13 (fun K hK=>?_)
    go_simp
    go_wp2
    refine hK.out _ _ ⟨hHeld.1.upd (Upd.set4 (b:=w5.heap.size) (Upd.refl [w5.heap.size] _) (.inl (by simp)) _ _ _ _) (by simp; omega),hHeld.2.trans (Upd.set4 (b:=w5.heap.size) (Upd.refl [w5.heap.size] _) (.inl (by simp)) _ _ _ _) (fun j hj => .inr (by simp at hj; omega))⟩ (fun hHeld=>hdN ?_)
    clear hK K
    refine hdT 14 (some 19) ?_
    refine wpAnyH_done (by kernel_rfl) ?_ 0
    go_wp2
    go_meet
    exact ⟨rfl,hHeld.2⟩
 case rest =>
 obtain ⟨rfl,hu⟩:=hcut
 have HU:=Lib.hid (HU.out.then hu)
 have hec:(((ec:Nat):Int) != 0)=true:=by have:=HEC.out; rw [bne_iff_ne]; omega
 clear hu
 go_wp2_with fail
 refine (HLV.out _).mono ?_
 rintro e w12 ⟨rfl,hu⟩
 go_wp2
 go_returns
 exact ⟨rfl,HU.out.then hu⟩
end Go.Proofs.YtfkcdnaghndgfaaGreatDoor
