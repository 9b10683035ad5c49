/- Package zip: Parse: its walk. -/
import Derived.Test.YtigjingielnaoaaGreatDoorQAZ
import Derived.Test.YtigjingielnaoaaGreatDoorQBD
import Derived.Test.YtigjingielnaoaaGreatDoorQBM
import Derived.Test.YtigjingielnaoaaGreatDoorQBG
import Derived.Test.YtigjingielnaoaaGreatDoorQAN
set_option linter.unusedVariables false
set_option linter.unusedSimpArgs false
set_option linter.unusedSectionVars false
namespace Go.Proofs.YtigjingielnaoaaGreatDoor
open Go.RowKit
theorem qo {fn:Func} {p t u:Tmp} (h:fn.results = #[.tmp t,.cell p 69,.tmp u]) (tmps:Array Value) (w:World) (g:Nat) (c0 c1 c2 c3:Value) (hp:tmps.getD p undef = .pointer (some ⟨g,0,none⟩)) (hB:Blk w g [c0,c1,c2,c3] 69) :
 (results fn tmps).run Tryz.prog w = .ok (.tuple #[tmps.getD t undef,.agg #[c0,c1,c2,c3],tmps.getD u undef]) w:=by
 have h0:=hB.cell 0 rfl
 have h1:=hB.cell 1 rfl
 have h2:=hB.cell 2 rfl
 have h3:=hB.cell 3 rfl
 have hp2:tmps[p]?.getD undef = .pointer (some ⟨g,0,none⟩):=by rw [← hp]; simp
 simp [results,h,go_sem,hp2,h0,h1,h2,h3]
theorem zey {w:World} {e t:TypeId} {size n b:Nat} {v:Value} {xs cs:List Value} (h:Row w e size v n xs) (hB:Blk w b cs t) (ht:t≠e):v.ownBlock≠some b:=fun hk=>by
 rcases h.2 with ⟨rfl,_⟩ | ⟨g,cap,cur,rfl,hb,hh,_⟩
 · simp [Value.ownBlock] at hk
 · simp [Value.ownBlock] at hk
   subst hk
   have hB2:w.heap[g]? =_:=hB
   rw [hh] at hB2
   simp at hB2
   exact ht hB2.2.symm
set_option maxRecDepth 100000 in
set_option maxHeartbeats 3200000 in
theorem KH (s:ByteArray) (w:World) (hs:s.size≤1000000) :
 Calls Tryz.prog 39 #[.string s] w fun e w'=>(∃ v,e = .returned (.tuple #[v,(xY s).2.1.v,.int .i64 ((xY s).2.2:Nat)])∧Row w' 52 9 v (xY s).1.length (qF (xY s).1))∧Upd [] w w':=by
 have HFD:=Lib.hid (fun z=>Wx s z hs)
 have HOK:=Lib.hid (YB s (s.size+1-22))
 have HCL0:=fun z=>WB (s.extract (egF s).1.pos (egF s).2.1) ((egF s).1.many:Nat) z (by rw [ByteArray.size_extract]; omega)
 have HFI:=vy (s.extract (egF s).1.pos (egF s).2.1) ((egF s).1.many:Nat)
 have HLE:=QO (s.extract (egF s).1.pos (egF s).2.1) (egF s).1.many
 have HZZ:Hid (xY s=if (egF s).2.2=false then ([],EgD.no,15)
  else if (egF s).1.pos+(egF s).1.size≠(egF s).2.1 then ([],EgD.no,2)
  else if (zW (s.extract (egF s).1.pos (egF s).2.1) ((egF s).1.many:Nat)).2≠0 then ([],EgD.no,(zW (s.extract (egF s).1.pos (egF s).2.1) ((egF s).1.many:Nat)).2)
  else if (qk s (zW (s.extract (egF s).1.pos (egF s).2.1) ((egF s).1.many:Nat)).1).2≠0 then ([],EgD.no,(qk s (zW (s.extract (egF s).1.pos (egF s).2.1) ((egF s).1.many:Nat)).1).2)
  else ((zW (s.extract (egF s).1.pos (egF s).2.1) ((egF s).1.many:Nat)).1,(egF s).1,0)):=Lib.hid rfl
 generalize xY s=ZP at *
 change Hid ((egF s).2.2=true→zH (egF s).1=true∧(egF s).2.1+22≤s.size) at HOK
 generalize egF s=F at *
 obtain ⟨⟨ga,gb,gc,gd⟩,at0,OK⟩:=F
 unfold EgD.v at HFD
 dsimp only at HFD HOK HCL0 HFI HLE HZZ
 have HB:=Lib.hid ((Blk.new w [.int .i64 0,.int .i64 0,.int .i64 0,.int .i64 0] 69).alloc (.cells #[.int .i64 0,.int .i64 0,.int .i64 0,.int .i64 0] 69))
 have HN0:Hid (Blk ((w.alloc (.cells #[.int .i64 0,.int .i64 0,.int .i64 0,.int .i64 0] 69)).alloc (.cells #[.int .i64 0,.int .i64 0,.int .i64 0,.int .i64 0] 69)) (w.heap.size+1) [.int .i64 0,.int .i64 0,.int .i64 0,.int .i64 0] 69):=Lib.hid (by
  have h:=Blk.new (w.alloc (.cells #[.int .i64 0,.int .i64 0,.int .i64 0,.int .i64 0] 69)) [.int .i64 0,.int .i64 0,.int .i64 0,.int .i64 0] 69
  simpa using h)
 have HU:=Lib.hid (((Upd.refl [] w).alloc (.cells #[.int .i64 0,.int .i64 0,.int .i64 0,.int .i64 0] 69)).alloc (.cells #[.int .i64 0,.int .i64 0,.int .i64 0,.int .i64 0] 69))
 go_enter Tryz.func39,Tryz.ntmps39
 go_upto_region 2 with fail
 change Code.wp _ _ _ _ ((w.alloc (.cells #[.int .i64 0,.int .i64 0,.int .i64 0,.int .i64 0] 69)).alloc (.cells #[.int .i64 0,.int .i64 0,.int .i64 0,.int .i64 0] 69))
 generalize (w.alloc (.cells #[.int .i64 0,.int .i64 0,.int .i64 0,.int .i64 0] 69)).alloc (.cells #[.int .i64 0,.int .i64 0,.int .i64 0,.int .i64 0] 69)=w1 at *
 generalize hb:w.heap.size=b at *
 generalize hn:b+1=nn at *
 have hnb:nn≠b:=by omega
 have HWB:=Lib.hid (show w.heap.size≤b by omega)
 clear hb
 go_wp2_with fail
 refine (HFD.out _).mono ?_
 rintro e w2 ⟨rfl,hu2⟩
 have HB2:=Lib.hid ((HB.out.upd hu2 (by simp)).alloc (.cells #[.int .i64 (ga:Nat),.int .i64 (gb:Nat),.int .i64 (gc:Nat),.int .i64 (gd:Nat)] 69))
 have HU2:=Lib.hid ((HU.out.then hu2).alloc (.cells #[.int .i64 (ga:Nat),.int .i64 (gb:Nat),.int .i64 (gc:Nat),.int .i64 (gd:Nat)] 69))
 have HC2:=Lib.hid (Blk.new w2 [.int .i64 (ga:Nat),.int .i64 (gb:Nat),.int .i64 (gc:Nat),.int .i64 (gd:Nat)] 69)
 have hcb:w2.heap.size≠b:=by have:=(HB.out.upd hu2 (by simp)).lt; omega
 have HN:=Lib.hid ((HN0.out.upd hu2 (by simp)).alloc (.cells #[.int .i64 (ga:Nat),.int .i64 (gb:Nat),.int .i64 (gc:Nat),.int .i64 (gd:Nat)] 69))
 clear hu2 HB HU HFD HN0
 go_upto_region 3 with fail
 change Code.wp _ _ _ _ (w2.alloc (.cells #[.int .i64 (ga:Nat),.int .i64 (gb:Nat),.int .i64 (gc:Nat),.int .i64 (gd:Nat)] 69))
 generalize w2.alloc (.cells #[.int .i64 (ga:Nat),.int .i64 (gb:Nat),.int .i64 (gc:Nat),.int .i64 (gd:Nat)] 69)=w3 at *
 generalize w2.heap.size=c at *
 have HB:=HB2
 have HU:=HU2
 clear HB2 HU2
 cases OK with
 | false =>
   have HV:=Lib.hid (HZZ.out.trans (if_pos rfl))
   go_upto_region 4 with fail
   have HBD:=Lib.hid HB.out.drew
   refine wp_region_held_drew (S:=fun w'=>Blk w' nn [.int .i64 0,.int .i64 0,.int .i64 0,.int .i64 0] 69) (by kernel_rfl) HN.out.drew (fun hHeld=>hdN ?_)
   refine hdT 0 (some 21) ?_ (hy:=by intro w0 hSw; have qA:=hSw.all; go_simp; try with_reducible rfl)
   refine hdT 1 (some 2) ?_
   refine hdO 2 (fun K hK=>?_)
   have kA:=HB.out.all
   have fA:=HB.out.frz
   go_simp
   go_wp2
   refine hK.out _ _ ((((hHeld.setFar (a:=⟨b,0,none⟩) _ hnb).setFar (a:=⟨b,1,none⟩) _ hnb).setFar (a:=⟨b,2,none⟩) _ hnb).setFar (a:=⟨b,3,none⟩) _ hnb) (fun hHeld=>hdN ?_)
   clear hK K
   refine hdT 3 (some 4) ?_
   refine wpAnyH_done (by kernel_rfl) ?_ 0
   go_wp2
   exact bodyPost_ret (qo rfl _ _ b _ _ _ _ rfl (Blk.set4 HBD.out _ _ _ _)) rfl ⟨⟨_,by rw [HV.out]; rfl,by rw [HV.out]; exact Row.nil _ _ _⟩,Upd.set4 HU.out.drew (.inr HWB.out) _ _ _ _⟩
 | true =>
 have HZ1:=Lib.hid (HZZ.out.trans (if_neg (by simp)))
 obtain ⟨hr,hat⟩:=HOK.out rfl
 unfold zH at hr
 simp only [Bool.and_eq_true,decide_eq_true_eq] at hr
 have cA:=HC2.out.all
 have hw1:IntKind.i64.wrap ((at0:Int)-(gc:Int))=(at0:Int)-(gc:Int):=IntWalk.i64_in _ (by omega)
 by_cases h1:gc+gb=at0
 rotate_left
 · have HV:=Lib.hid (HZ1.out.trans (if_pos h1))
   by_cases h9:(at0:Int)<(gc:Int)
   · go_upto_region 6 with fail
     have HBD:=Lib.hid HB.out.drew
     refine wp_region_held_drew (S:=fun w'=>Blk w' nn [.int .i64 0,.int .i64 0,.int .i64 0,.int .i64 0] 69) (by kernel_rfl) HN.out.drew (fun hHeld=>hdN ?_)
     refine hdT 0 (some 36) ?_ (hy:=by intro w0 hSw; have qA:=hSw.all; go_simp; try with_reducible rfl)
     refine hdT 1 (some 2) ?_
     refine hdO 2 (fun K hK=>?_)
     have kA:=HB.out.all
     have fA:=HB.out.frz
     go_simp
     go_wp2
     refine hK.out _ _ ((((hHeld.setFar (a:=⟨b,0,none⟩) _ hnb).setFar (a:=⟨b,1,none⟩) _ hnb).setFar (a:=⟨b,2,none⟩) _ hnb).setFar (a:=⟨b,3,none⟩) _ hnb) (fun hHeld=>hdN ?_)
     clear hK K
     refine hdT 3 (some 4) ?_
     refine wpAnyH_done (by kernel_rfl) ?_ 0
     go_wp2
     exact bodyPost_ret (qo rfl _ _ b _ _ _ _ rfl (Blk.set4 HBD.out _ _ _ _)) rfl ⟨⟨_,by rw [HV.out]; rfl,by rw [HV.out]; exact Row.nil _ _ _⟩,Upd.set4 HU.out.drew (.inr HWB.out) _ _ _ _⟩
   · have e1:((gb:Int) != (at0:Int)-(gc:Int))=true:=by rw [bne_iff_ne]; omega
     go_upto_region 6 with fail
     have HBD:=Lib.hid HB.out.drew
     refine wp_region_held_drew (S:=fun w'=>Blk w' nn [.int .i64 0,.int .i64 0,.int .i64 0,.int .i64 0] 69) (by kernel_rfl) HN.out.drew (fun hHeld=>hdN ?_)
     refine hdT 0 (some 36) ?_ (hy:=by intro w0 hSw; have qA:=hSw.all; go_simp; try with_reducible rfl)
     refine hdT 1 (some 2) ?_
     refine hdO 2 (fun K hK=>?_)
     have kA:=HB.out.all
     have fA:=HB.out.frz
     go_simp
     go_wp2
     refine hK.out _ _ ((((hHeld.setFar (a:=⟨b,0,none⟩) _ hnb).setFar (a:=⟨b,1,none⟩) _ hnb).setFar (a:=⟨b,2,none⟩) _ hnb).setFar (a:=⟨b,3,none⟩) _ hnb) (fun hHeld=>hdN ?_)
     clear hK K
     refine hdT 3 (some 4) ?_
     refine wpAnyH_done (by kernel_rfl) ?_ 0
     go_wp2
     exact bodyPost_ret (qo rfl _ _ b _ _ _ _ rfl (Blk.set4 HBD.out _ _ _ _)) rfl ⟨⟨_,by rw [HV.out]; rfl,by rw [HV.out]; exact Row.nil _ _ _⟩,Upd.set4 HU.out.drew (.inr HWB.out) _ _ _ _⟩
 have h9 : ¬ (at0:Int)<(gc:Int):=by omega
 have e1:((gb:Int) != (at0:Int)-(gc:Int))=false:=by rw [bne_eq_false_iff_eq]; omega
 have HZ2:=Lib.hid (HZ1.out.trans (if_neg (by simp [h1])))
 have h2:gc≤at0:=by omega
 have hsl:at0≤s.size:=by omega
 clear HZ1 HZZ HOK
 obtain ⟨D,hD⟩ : ∃ D,s.extract gc at0=D:=⟨_,rfl⟩
 have HDE:=Lib.hid hD
 rw [hD] at HCL0 HFI HLE HZ2
 have HLV0:=fun v z (h:kG z v (zW D (ga:Nat)).1)=>zbF s (zW D (ga:Nat)).1 v z hs h HFI (by omega)
 generalize zW D (ga:Nat)=CP at *
 generalize qk s CP.1=LP at *
 obtain ⟨L,why⟩:=CP
 obtain ⟨SPN,lw⟩:=LP
 dsimp only at HZ2 HLV0
 have HCL:=Lib.hid (fun z=>HCL0 z (by omega))
 have HLV:=Lib.hid HLV0
 unfold zak at HCL
 clear HCL0 HLV0 hD
 go_upto_region 7 with fail
 clear e1 cA hw1 h1 h9
 have hq1:(gc:Int)≤(at0:Int):=by omega
 have hq2:(at0:Int)≤(s.size:Int):=by omega
 have hq3:(0:Int)≤(gc:Int):=by omega
 refine wp_region_held_drew (S:=fun w'=>Blk w' c [.int .i64 (ga:Nat),.int .i64 (gb:Nat),.int .i64 (gc:Nat),.int .i64 (gd:Nat)] 69∧(Blk w' b [.int .i64 0,.int .i64 0,.int .i64 0,.int .i64 0] 69∧Blk w' nn [.int .i64 0,.int .i64 0,.int .i64 0,.int .i64 0] 69)∧Upd [] w w') (by kernel_rfl) ⟨HC2.out.drew,⟨HB.out.drew,HN.out.drew⟩,HU.out.drew⟩ (fun hHeld=>hdN ?_)
 refine hdT 0 (some 38) ?_; refine hdT 1 (some 39) ?_
 refine hdT 2 (some 40) ?_ (hy:=by intro w0 hSw; have q0:=hSw.1.cell 2 rfl; go_simp; try with_reducible rfl); refine hdT 3 (some 41) ?_
 refine hdT 4 (some 42) ?_ (hy:=by intro w0 hSw; go_simp; all_goals first | rw [HDE.out] | (rw [← HDE.out]; simp)) (v := .string D)
 refine hdT 5 (some 43) ?_; refine hdT 6 (some 44) ?_ (hy:=by intro w0 hSw; have q0:=hSw.1.cell 0 rfl; go_simp; try with_reducible rfl)
 refine hdO 7 (fun K hK=>?_)
 go_simp
 refine (HCL.out _).mono ?_
 rintro e z1 ⟨⟨v,rfl,hrw⟩,hz1⟩
 go_wp2
 refine hK.out _ _ ⟨hHeld.1.upd hz1 (by simp),⟨hHeld.2.1.1.upd hz1 (by simp),hHeld.2.1.2.upd hz1 (by simp)⟩,hHeld.2.2.then hz1⟩ (fun hHeld=>hdN ?_)
 clear hK K
 refine hdT 8 (some 37) ?_; refine hdT 9 (some 46) ?_; refine hdT 10 (some 47) ?_; refine hdT 11 (some 9) ?_; refine hdT 12 (some 10) ?_
 refine wpAnyH_done (by kernel_rfl) ?_ 0
 obtain ⟨va,vc,hvf⟩:=hrw.form
 subst hvf
 have HR6:=Lib.hid hrw
 have HC6:=Lib.hid hHeld.1
 have HB6:=Lib.hid hHeld.2.1.1
 have HN6:=Lib.hid hHeld.2.1.2
 have HU6:=Lib.hid hHeld.2.2
 clear hrw hz1 hHeld HC2 HB HU HCL
 by_cases h3:why=0
 rotate_left
 · have e1:(((why:Nat):Int) != 0)=true:=by rw [bne_iff_ne]; omega
   have HV:=Lib.hid (HZ2.out.trans (if_pos h3))
   have HB:=HB6
   have HU:=HU6
   have HN:=HN6
   clear h3
   go_upto_region 9 with fail
   have HBD:=Lib.hid HB.out.drew
   refine wp_region_held_drew (S:=fun w'=>Blk w' nn [.int .i64 0,.int .i64 0,.int .i64 0,.int .i64 0] 69) (by kernel_rfl) HN.out.drew (fun hHeld=>hdN ?_)
   refine hdT 0 (some 50) ?_ (hy:=by intro w0 hSw; have qA:=hSw.all; go_simp; try with_reducible rfl)
   refine hdT 1 (some 51) ?_; refine hdT 2 (some 2) ?_
   refine hdO 3 (fun K hK=>?_)
   have kA:=HB.out.all
   have fA:=HB.out.frz
   go_simp
   go_wp2
   refine hK.out _ _ ((((hHeld.setFar (a:=⟨b,0,none⟩) _ hnb).setFar (a:=⟨b,1,none⟩) _ hnb).setFar (a:=⟨b,2,none⟩) _ hnb).setFar (a:=⟨b,3,none⟩) _ hnb) (fun hHeld=>hdN ?_)
   clear hK K
   refine hdT 4 (some 4) ?_
   refine wpAnyH_done (by kernel_rfl) ?_ 0
   go_wp2
   exact bodyPost_ret (qo rfl _ _ b _ _ _ _ rfl (Blk.set4 HBD.out _ _ _ _)) rfl ⟨⟨_,by rw [HV.out]; rfl,by rw [HV.out]; exact Row.nil _ _ _⟩,Upd.set4 HU.out.drew (.inr HWB.out) _ _ _ _⟩
 have HZ3:=Lib.hid (HZ2.out.trans (if_neg (by simp [h3])))
 subst h3
 go_wp2_with fail
 refine (HLV.out _ _ (Row.recsAt HR6.out)).mono ?_
 rintro e w7 ⟨⟨u7,rfl,hr7⟩,hu7⟩
 have HB:=Lib.hid (HB6.out.upd hu7 (by simp))
 have HU:=Lib.hid (HU6.out.then hu7)
 have HN7:=Lib.hid (HN6.out.upd hu7 (by simp))
 have HC7:=Lib.hid (HC6.out.upd hu7 (by simp))
 have HR7:=Lib.hid (HR6.out.upd hu7 (by simp))
 clear hr7 hu7 HB6 HU6 HC6 HR6 HLV
 by_cases h4:lw=0
 rotate_left
 · have e1:(((lw:Nat):Int) != 0)=true:=by rw [bne_iff_ne]; omega
   have HV:=Lib.hid (HZ3.out.trans (if_pos h4))
   have HN:=HN7
   clear h4
   go_upto_region 12 with fail
   have HBD:=Lib.hid HB.out.drew
   refine wp_region_held_drew (S:=fun w'=>Blk w' nn [.int .i64 0,.int .i64 0,.int .i64 0,.int .i64 0] 69) (by kernel_rfl) HN.out.drew (fun hHeld=>hdN ?_)
   refine hdT 0 (some 60) ?_ (hy:=by intro w0 hSw; have qA:=hSw.all; go_simp; try with_reducible rfl)
   refine hdT 1 (some 61) ?_; refine hdT 2 (some 2) ?_
   refine hdO 3 (fun K hK=>?_)
   have kA:=HB.out.all
   have fA:=HB.out.frz
   go_simp
   go_wp2
   refine hK.out _ _ ((((hHeld.setFar (a:=⟨b,0,none⟩) _ hnb).setFar (a:=⟨b,1,none⟩) _ hnb).setFar (a:=⟨b,2,none⟩) _ hnb).setFar (a:=⟨b,3,none⟩) _ hnb) (fun hHeld=>hdN ?_)
   clear hK K
   refine hdT 4 (some 4) ?_
   refine wpAnyH_done (by kernel_rfl) ?_ 0
   go_wp2
   exact bodyPost_ret (qo rfl _ _ b _ _ _ _ rfl (Blk.set4 HBD.out _ _ _ _)) rfl ⟨⟨_,by rw [HV.out]; rfl,by rw [HV.out]; exact Row.nil _ _ _⟩,Upd.set4 HU.out.drew (.inr HWB.out) _ _ _ _⟩
 have HV:=Lib.hid (HZ3.out.trans (if_neg (by simp [h4])))
 subst h4
 have HNE:=Lib.hid (zey HR7.out HB.out (by decide))
 go_upto_region 13 with fail
 have HBD:=Lib.hid HB.out.drew
 refine wp_region_held_drew (S:=fun w'=>Blk w' c [.int .i64 (ga:Nat),.int .i64 (gb:Nat),.int .i64 (gc:Nat),.int .i64 (gd:Nat)] 69) (by kernel_rfl) HC7.out.drew (fun hHeld=>hdN ?_)
 refine hdT 0 (some 62) ?_
 refine hdT 1 (some 63) ?_ (hy:=by intro w0 hSw; have qA:=hSw.all; go_simp; try with_reducible rfl)
 refine hdT 2 (some 2) ?_
 refine hdO 3 (fun K hK=>?_)
 have kA:=HB.out.all
 have fA:=HB.out.frz
 go_simp
 go_wp2
 refine hK.out _ _ ((((hHeld.setFar (a:=⟨b,0,none⟩) _ hcb).setFar (a:=⟨b,1,none⟩) _ hcb).setFar (a:=⟨b,2,none⟩) _ hcb).setFar (a:=⟨b,3,none⟩) _ hcb) (fun hHeld=>hdN ?_)
 clear hK K
 refine hdT 4 (some 4) ?_
 refine wpAnyH_done (by kernel_rfl) ?_ 0
 go_wp2
 exact bodyPost_ret (qo rfl _ _ b _ _ _ _ rfl (Blk.set4 HBD.out _ _ _ _)) rfl ⟨⟨_,by rw [HV.out]; rfl,by rw [HV.out]; exact ((((HR7.out.drew.setFar (a:=⟨b,0,none⟩) _ HNE.out).setFar (a:=⟨b,1,none⟩) _ HNE.out).setFar (a:=⟨b,2,none⟩) _ HNE.out).setFar (a:=⟨b,3,none⟩) _ HNE.out)⟩,Upd.set4 HU.out.drew (.inr HWB.out) _ _ _ _⟩
end Go.Proofs.YtigjingielnaoaaGreatDoor
namespace Go.Proofs.YtigjingielnaoaaGreatDoor
open Go.RowKit
def Jh (e:EgD):List (List Nat):=[[101,110,100],zA e.pos,zA e.size,zA e.many]
def kF (s:ByteArray):List (List Nat):=(ju s::(xY s).1.map jy)++[zN 32 (Jh (xY s).2.1)]
theorem XO (e:EgD) (h:zH e=true):(∀ p∈Jh e,∀ x∈p,x<256)∧qr (Jh e)≤100:=by
 unfold zH at h
 simp only [Bool.and_eq_true,decide_eq_true_eq] at h
 constructor
 · intro p hp x hx
   unfold Jh at hp
   simp only [List.mem_cons,List.not_mem_nil,or_false] at hp
   rcases hp with rfl | rfl | rfl | rfl
   · simp at hx; omega
   · have:=xM 13 e.pos (by omega) x hx; omega
   · have:=xM 13 e.size (by omega) x hx; omega
   · have:=xM 13 e.many (by omega) x hx; omega
 · have a1:=yd 13 e.pos (by omega)
   have a2:=yd 13 e.size (by omega)
   have a3:=yd 13 e.many (by omega)
   unfold Jh
   simp only [qr,List.map_cons,List.map_nil,List.sum_cons,List.sum_nil,List.length_cons,List.length_nil]
   omega
theorem Yq {s:ByteArray} (h:(xY s).2.2=0):zH (xY s).2.1=true∧(∀ r∈(xY s).1,r.Fits)∧(xY s).1.length≤65535:=by
 have HOK:=YB s (s.size+1-22)
 change ((egF s).2.2=true→zH (egF s).1=true∧(egF s).2.1+22≤s.size) at HOK
 unfold xY at h ⊢
 split at h
 · cases h
 rename_i h1
 rw [if_neg h1]
 split at h
 · cases h
 rename_i h2
 rw [if_neg h2]
 split at h
 · rename_i h3; exact absurd h h3
 rename_i h3
 rw [if_neg h3]
 split at h
 · rename_i h4; exact absurd h h4
 rename_i h4
 rw [if_neg h4]
 have h5:=(HOK (by simpa using h1)).1
 refine ⟨h5,vy _ _,Nat.le_trans (QO _ _) ?_⟩
 unfold zH at h5
 simp only [Bool.and_eq_true,decide_eq_true_eq] at h5
 omega
theorem zbA (s:ByteArray) (h:(xY s).2.2=0) : ∀ p∈kF s,∀ x∈p,x<256:=by
 intro p hp x hx
 unfold kF at hp
 simp only [List.mem_append,List.mem_cons,List.mem_map,List.not_mem_nil,or_false] at hp
 rcases hp with (rfl | ⟨r,_,rfl⟩) | rfl
 · exact zdr s x hx
 · exact zds r x hx
 · exact kC 32 (by omega) _ (XO _ (Yq h).1).1 x hx
set_option maxRecDepth 100000 in
set_option maxHeartbeats 6400000 in
theorem KM (s:ByteArray) (w:World) (hs:s.size≤1000000) :
 Calls Tryz.prog 16 #[.string s] w fun e w'=>(∃ v,e = .returned (.tuple #[v,.int .i64 ((xY s).2.2:Nat)])∧((xY s).2.2≠0→v = .slice none 0 0)∧((xY s).2.2=0→Row w' 9 1 v (kF s).length (yw (kF s))))∧Upd [] w w':=by
 obtain ⟨i0,hi,hz0,hz1,hz2⟩:=info_parts Yj
 have HPR:=Lib.hid (fun z=>KH s z hs)
 have HMK:=Lib.hid (fun z=>kU s z hs)
 have HZO:=Lib.hid (fun h=>Yq (s:=s) h)
 have HLL:Hid (kF s=(ju s::(xY s).1.map jy)++[zN 32 (Jh (xY s).2.1)]):=Lib.hid rfl
 have HEL:=Lib.hid (fun h=>XO (xY s).2.1 h)
 generalize kF s=LL at *
 generalize ju s=MP at *
 generalize xY s=ZP at *
 obtain ⟨L,⟨ga,gb,gc,gd⟩,why⟩:=ZP
 unfold EgD.v at HPR
 dsimp only at HPR HZO HLL HEL
 go_enter Tryz.func16,Tryz.ntmps16
 go_wp2_with fail
 refine (HPR.out _).mono ?_
 rintro e w1 ⟨⟨v,rfl,hrw⟩,hu⟩
 have HR2:=Lib.hid (Row.recsAt (hrw.alloc (.cells #[.int .i64 (ga:Nat),.int .i64 (gb:Nat),.int .i64 (gc:Nat),.int .i64 (gd:Nat)] 69)))
 have HC2:=Lib.hid (Blk.new w1 [.int .i64 (ga:Nat),.int .i64 (gb:Nat),.int .i64 (gc:Nat),.int .i64 (gd:Nat)] 69)
 have HU2:=Lib.hid (hu.alloc (.cells #[.int .i64 (ga:Nat),.int .i64 (gb:Nat),.int .i64 (gc:Nat),.int .i64 (gd:Nat)] 69))
 clear hu hrw HPR
 go_upto_region 2 with fail
 change Code.wp _ _ _ _ (w1.alloc (.cells #[.int .i64 (ga:Nat),.int .i64 (gb:Nat),.int .i64 (gc:Nat),.int .i64 (gd:Nat)] 69))
 generalize w1.alloc (.cells #[.int .i64 (ga:Nat),.int .i64 (gb:Nat),.int .i64 (gc:Nat),.int .i64 (gd:Nat)] 69)=w2 at *
 generalize w1.heap.size=c at *
 have hcw:c<w2.heap.size:=HC2.out.lt
 by_cases h0:why=0
 rotate_left
 · have e1:(((why:Nat):Int) != 0)=true:=by rw [bne_iff_ne]; omega
   have HH:=Lib.hid h0
   clear h0
   go_wp2
   go_returns
   exact ⟨⟨_,rfl,fun _=>rfl,fun h=>absurd h HH.out⟩,HU2.out⟩
 subst h0
 obtain ⟨hro,hfi,hll⟩:=HZO.out rfl
 obtain ⟨hel,het⟩:=HEL.out hro
 have HFI:=Lib.hid hfi
 have HJ:=Lib.hid (fun v w h=>ve (Jh ⟨ga,gb,gc,gd⟩) v w h hel (by simp [Jh]) (by omega))
 have HTN:=Lib.hid (fun w=>kL w (Jh ⟨ga,gb,gc,gd⟩) 9)
 unfold zH at hro
 simp only [Bool.and_eq_true,decide_eq_true_eq] at hro
 have H1:=Lib.hid (fun w=>qe gc w (by omega))
 have H2:=Lib.hid (fun w=>qe gb w (by omega))
 have H3:=Lib.hid (fun w=>qe ga w (by omega))
 have HW:Hid (Jh ⟨ga,gb,gc,gd⟩=[[101,110,100],zA gc,zA gb,zA ga]):=Lib.hid rfl
 rw [HW.out] at HTN HJ HLL
 clear hel het hfi HEL HZO HW hro
 generalize zA gc=D1 at *
 generalize zA gb=D2 at *
 generalize zA ga=D3 at *
 obtain ⟨a,cap,rfl,hrec⟩:=HR2.out
 have HRA:=Lib.hid hrec
 clear hrec HR2
 obtain ⟨n,hnn⟩ : ∃ n,L.length=n:=⟨_,rfl⟩
 rw [hnn] at hll ⊢
 have HN:=Lib.hid hnn
 clear hnn
 go_wp2_with fail
 refine (HMK.out _).mono ?_
 rintro e w3 ⟨rfl,hu⟩
 have HC3:=Lib.hid ((HC2.out.upd hu (by simp)).alloc (.cells #[.string (zf MP)] 9))
 have HU23:=Lib.hid (hu.alloc (.cells #[.string (zf MP)] 9))
 have HR3:Hid (Row (w3.alloc (.cells #[.string (zf MP)] 9)) 9 1 (.slice (some ⟨w3.heap.size,0,none⟩) 1 1) 1 (yw [MP])):=Lib.hid (Row.new w3 (yw [MP]) 9 1 1 (by unfold maxLen; omega) rfl)
 have HW3:Hid (w2.heap.size≤w3.heap.size):=Lib.hid hu.size
 clear hu HMK HC2
 go_upto_region 5 with fail
 change Code.wp _ _ _ _ (w3.alloc (.cells #[.string (zf MP)] 9))
 generalize w3.alloc (.cells #[.string (zf MP)] 9)=w4 at *
 generalize w3.heap.size=g0 at *
 go_wp2
 go_loopg [7,24] n (fun gg v7 s24 wr => ∃ (i:Nat) (done:List (List Nat)),i≤n∧gg=n-i∧s24 = .int .i64 (i:Nat)∧Hid (done=MP::(L.take i).map jy)∧Hid (Row wr 9 1 v7 done.length (yw done))∧Hid (∀ b,v7.ownBlock=some b→w2.heap.size≤b)∧Hid (Blk wr c [.int .i64 (ga:Nat),.int .i64 (gb:Nat),.int .i64 (gc:Nat),.int .i64 (gd:Nat)] 69∧Upd [] w2 wr))
 case atStart=>exact ⟨0,[MP],Nat.zero_le _,rfl,rfl,Lib.hid (by simp),HR3,Lib.hid (fun b hb=>by have:=HW3.out; simp [Value.ownBlock] at hb; omega),Lib.hid ⟨HC3.out,HU23.out⟩⟩
 case round =>
  obtain ⟨i,done,hin,rfl,rfl,HD,HR,HO,HS⟩:=hrel
  have hdl:done.length=i+1:=by rw [HD.out,List.length_cons,List.length_map,List.length_take,HN.out]; omega
  rw [hdl] at HR
  obtain ⟨va,vc,hvf⟩:=HR.out.form
  subst hvf
  clear HR3 HC3 HU23 HW3
  by_cases hc:i<n
  · have hcz:(i:Int)<(n:Int):=by omega
    have hil:i<L.length:=by rw [HN.out]; exact hc
    obtain ⟨b1,o1,rfl,g1⟩:=HRA.out i hil
    have HD2:Hid (done++[jy L[i]]=MP::(L.take (i+1)).map jy):=Lib.hid (by rw [HD.out,List.take_succ_eq_append_getElem hil,List.map_append]; rfl)
    obtain ⟨r,hr⟩ : ∃ r,r=L[i]:=⟨_,rfl⟩
    rw [← hr] at g1 HD2
    have hf:r.Fits:=HFI.out r (by rw [hr]; exact List.getElem_mem hil)
    have HDR:=Lib.hid (fun z=>zcR r z hf)
    have HCA:=Lib.hid (fun f x h=>HS.out.2.keep (g1 f x h))
    clear g1 hf hr
    generalize jy r=RW at *
    obtain ⟨p,m,sum,l2,wh,k,md,t,pos⟩:=r
    unfold RecD.v at HDR
    unfold RecD.cells at HCA
    dsimp only at HDR HCA
    have c0:=HCA.out 0 (.string p) rfl
    have c1:=HCA.out 1 (.int .i64 m) rfl
    have c2:=HCA.out 2 (.int .u32 (sum:Nat)) rfl
    have c3:=HCA.out 3 (.int .i64 l2) rfl
    have c4:=HCA.out 4 (.int .i64 wh) rfl
    have c5:=HCA.out 5 (.int .i64 k) rfl
    have c6:=HCA.out 6 (.int .i64 md) rfl
    have c7:=HCA.out 7 (.int .u32 (t:Nat)) rfl
    have c8:=HCA.out 8 (.int .i64 pos) rfl
    simp only [Nat.add_zero] at c0
    have hw3:IntKind.i64.wrap ((i:Int)+1)=(i:Int)+1:=IntWalk.i64_in _ (by omega)
    have HB:=Lib.hid (Blk.new wr [.string p,.int .i64 m,.int .u32 (sum:Nat),.int .i64 l2,.int .i64 wh,.int .i64 k,.int .i64 md,.int .u32 (t:Nat),.int .i64 pos] 52)
    have HS1:=Lib.hid (And.intro (HS.out.1.alloc (.cells #[.string p,.int .i64 m,.int .u32 (sum:Nat),.int .i64 l2,.int .i64 wh,.int .i64 k,.int .i64 md,.int .u32 (t:Nat),.int .i64 pos] 52)) (HS.out.2.alloc (.cells #[.string p,.int .i64 m,.int .u32 (sum:Nat),.int .i64 l2,.int .i64 wh,.int .i64 k,.int .i64 md,.int .u32 (t:Nat),.int .i64 pos] 52)))
    have HR1:=Lib.hid (HR.out.alloc (.cells #[.string p,.int .i64 m,.int .u32 (sum:Nat),.int .i64 l2,.int .i64 wh,.int .i64 k,.int .i64 md,.int .u32 (t:Nat),.int .i64 pos] 52))
    have HUW:=HS.out.2.size
    go_upto_region 8 with fail
    change Code.wp _ _ _ _ (wr.alloc (.cells #[.string p,.int .i64 m,.int .u32 (sum:Nat),.int .i64 l2,.int .i64 wh,.int .i64 k,.int .i64 md,.int .u32 (t:Nat),.int .i64 pos] 52))
    generalize wr.alloc (.cells #[.string p,.int .i64 m,.int .u32 (sum:Nat),.int .i64 l2,.int .i64 wh,.int .i64 k,.int .i64 md,.int .u32 (t:Nat),.int .i64 pos] 52)=w5 at *
    generalize wr.heap.size=q at *
    clear c0 c1 c2 c3 c4 c5 c6 c7 c8 HCA HS HR
    have c0:=HB.out.cell 0 rfl
    have c1:=HB.out.cell 1 rfl
    have c2:=HB.out.cell 2 rfl
    have c3:=HB.out.cell 3 rfl
    have c4:=HB.out.cell 4 rfl
    have c5:=HB.out.cell 5 rfl
    have c6:=HB.out.cell 6 rfl
    have c7:=HB.out.cell 7 rfl
    have c8:=HB.out.cell 8 rfl
    go_wp2_with fail
    refine (HDR.out _).mono ?_
    rintro e w6 ⟨rfl,hu6⟩
    have HS2:=Lib.hid (And.intro (HS1.out.1.upd hu6 (by simp)) (HS1.out.2.then hu6))
    have HR2:=Lib.hid (HR1.out.upd hu6 (by simp))
    clear hu6 HS1 HR1 HB HDR c0 c1 c2 c3 c4 c5 c6 c7 c8
    go_wp2_with (at_builtin; refine zE _ rfl _ _ 33 rfl 9 i0 _ 1 16 Tryz.underlying33 hi hz0 hz1 hz2 rfl (by omega) (.slice va (i+1) vc) (i+1) _ rfl (HR2.out.alloc _) ⟨w6.heap.size,0,none⟩ 1 1 [_] rfl rfl (World.news_of_block (cs := #[_]) (t:=9) (fr:=(0,0)) (heap_alloc_new _ _)) (by simp [Value.oneCell']) (by unfold maxLen; omega) (by omega) ?_)
    rintro v9 w9 hR9 hU9 hT9
    obtain ⟨va9,vc9,rfl⟩:=hR9.form
    have HF:Hid (Row w9 9 1 (.slice va9 (i+1+1) vc9) (done++[RW]).length (yw (done++[RW]))∧(∀ b,(Value.slice va9 (i+1+1) vc9).ownBlock=some b→w2.heap.size≤b)∧Blk w9 c [.int .i64 (ga:Nat),.int .i64 (gb:Nat),.int .i64 (gc:Nat),.int .i64 (gd:Nat)] 69∧Upd [] w2 w9):=Lib.hid (by
     have hn2:=HO.out
     have hcl:=HS2.out.1.lt
     have hsz:=HS2.out.2.size
     refine ⟨?_,fun b hb=>?_,?_,?_⟩
     · rw [List.length_append,hdl,show yw (done++[RW])=yw done++yw [RW] from List.map_append ..]
       exact hR9
     · rcases hT9 with e | ⟨g,e1,e2⟩
       · exact hn2 b (by rw [← e]; exact hb)
       · rw [hb] at e1; simp at e1 e2; omega
     · refine (HS2.out.1.alloc (.cells #[.string (zf RW)] 9)).upd hU9 (fun hm=>?_)
       have:=hn2 c (by simpa using hm)
       omega
     · exact (HS2.out.2.alloc _).trans hU9 (fun k hk => .inr (hn2 k (by simpa using hk))))
    clear hR9 hU9 hT9 HO HR2 HS2
    go_wp2
    go_roundg (n-(i+1))
    · exact ⟨i+1,done++[RW],by omega,rfl,by go_num,HD2,Lib.hid HF.out.1,Lib.hid HF.out.2.1,Lib.hid HF.out.2.2⟩
    · omega
  · have hcz : ¬ (i:Int)<(n:Int):=by omega
    have hie:i=n:=by omega
    subst hie
    have HLE:Hid (LL=done++[zN 32 [[101,110,100],D1,D2,D3]]):=Lib.hid (by rw [HLL.out,HD.out,List.take_of_length_le (by rw [HN.out]; exact Nat.le_refl _)])
    clear HD hc HLL
    have hkl:i+1≤65536:=by omega
    go_upto_region 10 with fail
    have HRr:=Lib.hid HR.out.drew
    refine wp_region_held_drew (S:=fun w'=>Blk w' c [.int .i64 (ga:Nat),.int .i64 (gb:Nat),.int .i64 (gc:Nat),.int .i64 (gd:Nat)] 69∧Upd [] w2 w') (by kernel_rfl) ⟨HS.out.1.drew,HS.out.2.drew⟩ (fun hHeld=>hdN ?_)
    refine hdT 0 (some 34) ?_; refine hdT 1 (some 35) ?_
    refine hdT 2 (some 36) ?_ (hy:=by intro w5 hSw; have q0c:=hSw.1.cell 2 rfl; go_simp; try with_reducible rfl); refine hdT 4 (some 38) ?_
    refine hdT 5 (some 39) ?_ (hy:=by intro w5 hSw; have q0c:=hSw.1.cell 1 rfl; go_simp; try with_reducible rfl); refine hdT 7 (some 41) ?_
    refine hdT 8 (some 42) ?_ (hy:=by intro w5 hSw; have q0c:=hSw.1.cell 0 rfl; go_simp; try with_reducible rfl)
    refine hdO 3 (fun K hK=>?_)
    go_simp
    refine (H1.out _).mono ?_
    rintro e z9 ⟨rfl,hz9⟩
    have HRr:=Lib.hid (HRr.out.upd hz9 (by simp))
    go_wp2
    refine hK.out _ _ ⟨hHeld.1.upd hz9 (by simp),hHeld.2.then hz9⟩ (fun hHeld=>hdN ?_)
    clear hK K
    refine hdO 6 (fun K hK=>?_)
    go_simp
    refine (H2.out _).mono ?_
    rintro e z9 ⟨rfl,hz9⟩
    have HRr:=Lib.hid (HRr.out.upd hz9 (by simp))
    go_wp2
    refine hK.out _ _ ⟨hHeld.1.upd hz9 (by simp),hHeld.2.then hz9⟩ (fun hHeld=>hdN ?_)
    clear hK K
    refine hdO 9 (fun K hK=>?_)
    go_simp
    refine (H3.out _).mono ?_
    rintro e z9 ⟨rfl,hz9⟩
    have HRr:=Lib.hid (HRr.out.upd hz9 (by simp))
    go_wp2
    refine hK.out _ _ ⟨hHeld.1.upd hz9 (by simp),hHeld.2.then hz9⟩ (fun hHeld=>hdN ?_)
    clear hK K
    refine hdO 10 (fun K hK=>?_)
    go_simp
    have HTZ:=Lib.hid (HTN.out z9)
    have HRr:=Lib.hid (HRr.out.alloc (.cells #[.string { data := #[101,110,100] },.string (zf D1),.string (zf D2),.string (zf D3)] 9))
    go_wp2
    refine hK.out _ _ ⟨hHeld.1.alloc _,hHeld.2.alloc _⟩ (fun hHeld=>hdN ?_)
    clear hK K
    refine hdO 11 (fun K hK=>?_)
    go_simp
    refine (HJ.out _ _ HTZ.out).mono ?_
    rintro e z9 ⟨rfl,hz9⟩
    have HRr:=Lib.hid (HRr.out.upd hz9 (by simp))
    go_wp2
    refine hK.out _ _ ⟨hHeld.1.upd hz9 (by simp),hHeld.2.then hz9⟩ (fun hHeld=>hdN ?_)
    clear hK K
    refine hdO 12 (fun K hK=>?_)
    go_simp
    have HRr:=Lib.hid (HRr.out.alloc (.cells #[.string (zf (zN 32 [[101,110,100],D1,D2,D3]))] 9))
    go_wp2
    refine hK.out _ _ ⟨hHeld.1.alloc _,hHeld.2.alloc _⟩ (fun hHeld=>hdN ?_)
    clear hK K
    refine hdO 13 (fun K hK=>?_)
    refine jA _ rfl _ _ 33 rfl 9 i0 _ 1 16 Tryz.underlying33 hi hz0 hz1 hz2 rfl (by omega) (.slice va (i+1) vc) (i+1) _ rfl HRr.out ⟨z9.heap.size,0,none⟩ 1 1 [_] rfl rfl (World.news_of_block (cs := #[_]) (t:=9) (fr:=(0,0)) (heap_alloc_new _ _)) (by simp [Value.oneCell']) (by unfold maxLen; omega) (by omega) ?_
    intro v9 w9 hR9 hU9 hT9
    obtain ⟨va9,vc9,rfl⟩:=hR9.form
    go_wp2
    refine hK.out _ _ ⟨hHeld.1.upd hU9 (fun hm=>by have:=HO.out c (by simpa using hm); omega),hHeld.2.trans hU9 (fun k hk => .inr (HO.out k (by simpa using hk)))⟩ (fun hHeld=>hdN ?_)
    clear hK K
    refine hdT 14 (some 2) ?_; refine hdT 15 (some 3) ?_
    refine wpAnyH_done (by kernel_rfl) ?_ 0
    go_wp2
    go_returns
    refine ⟨⟨_,rfl,?_⟩,HU2.out.then hHeld.2⟩
    rw [HLE.out,List.length_append,hdl,show yw (done++[zN 32 [[101,110,100],D1,D2,D3]])=yw done++yw [zN 32 [[101,110,100],D1,D2,D3]] from List.map_append ..]
    exact hR9
end Go.Proofs.YtigjingielnaoaaGreatDoor
