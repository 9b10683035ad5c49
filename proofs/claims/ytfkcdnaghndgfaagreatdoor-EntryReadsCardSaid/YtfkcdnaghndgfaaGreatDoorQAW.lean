/- Package entry: whole: its walk. -/
import Derived.Test.YtfkcdnaghndgfaaGreatDoorQAS
import Derived.Test.YtfkcdnaghndgfaaGreatDoorQAT
import Derived.Test.YtfkcdnaghndgfaaGreatDoorQAR
import Derived.Test.YtfkcdnaghndgfaaGreatDoorQAU
set_option linter.unusedVariables false
set_option linter.unusedSimpArgs false
set_option linter.unusedSectionVars false
namespace Go.Proofs.YtfkcdnaghndgfaaGreatDoor
open Go.RowKit
set_option maxRecDepth 100000 in
set_option maxHeartbeats 3200000 in
theorem zdI (d:ByteArray) (r:RecD) (w:World) (hd:d.size≤1000000) (hk:r.k=1∨r.k=2) :
 Calls Tryz.prog 29 #[.string d,r.v] w fun e w'=>e = .returned (.tuple #[.string (xg d r).1,.int .i64 ((xg d r).2:Nat)])∧Upd [] w w':=by
 have HOF0:=zhh d r.wh
 rw [zdp] at HOF0
 have HOF:=Lib.hid (fun z=>HOF0 z (by omega))
 clear HOF0
 obtain ⟨p,m,sum,l,wh,k,md,t,pos⟩:=r
 dsimp only at hk HOF
 have HW:Hid (xg d ⟨p,m,sum,l,wh,k,md,t,pos⟩=if m=8 then (if (ofT (ofP d wh)).2.2≠0 then (⟨#[]⟩,(ofT (ofP d wh)).2.2) else if (ofT (ofP d wh)).2.1≠d.size then (⟨#[]⟩,2) else ZH (ofT (ofP d wh)).1 ⟨p,m,sum,l,wh,k,md,t,pos⟩) else ZH d ⟨p,m,sum,l,wh,k,md,t,pos⟩):=Lib.hid rfl
 generalize xg d ⟨p,m,sum,l,wh,k,md,t,pos⟩=WP at *
 generalize ofT (ofP d wh)=X at *
 obtain ⟨x,u,c⟩:=X
 dsimp only at HOF HW
 have HFF:Hid (∀ y:ByteArray,ZH y ⟨p,m,sum,l,wh,k,md,t,pos⟩=if 65000<wh then (⟨#[]⟩,4) else if (y.size:Int)≠wh then (⟨#[]⟩,2) else if k=1∧yA y≠sum then (⟨#[]⟩,11) else (y,0)):=Lib.hid (fun _=>rfl)
 unfold RecD.v
 dsimp only
 have HB:=Lib.hid (Blk.new w [.string p,.int .i64 m,.int .u32 (sum:Nat),.int .i64 l,.int .i64 wh,.int .i64 k,.int .i64 md,.int .u32 (t:Nat),.int .i64 pos] 26)
 have HU:=Lib.hid ((Upd.refl [] w).alloc (.cells #[.string p,.int .i64 m,.int .u32 (sum:Nat),.int .i64 l,.int .i64 wh,.int .i64 k,.int .i64 md,.int .u32 (t:Nat),.int .i64 pos] 26))
 go_enter Tryz.func29,Tryz.ntmps29
 go_upto_region 1 with fail
 change Code.wp _ _ _ _ (w.alloc (.cells #[.string p,.int .i64 m,.int .u32 (sum:Nat),.int .i64 l,.int .i64 wh,.int .i64 k,.int .i64 md,.int .u32 (t:Nat),.int .i64 pos] 26))
 generalize w.alloc (.cells #[.string p,.int .i64 m,.int .u32 (sum:Nat),.int .i64 l,.int .i64 wh,.int .i64 k,.int .i64 md,.int .u32 (t:Nat),.int .i64 pos] 26)=w1 at *
 generalize w.heap.size=g at *
 have kA:=HB.out.all
 by_cases hm:m=8
 · subst hm
   have HW2:=Lib.hid (HW.out.trans (if_pos rfl))
   clear HW
   go_wp2_with fail
   refine (HOF.out _).mono ?_
   rintro e w2 ⟨rfl,hu2⟩
   have HB2:=Lib.hid (HB.out.upd hu2 (by simp))
   have HU2:=Lib.hid (HU.out.then hu2)
   clear kA hu2 HB HU HOF
   have kA:=HB2.out.all
   by_cases hc:c=0
   · subst hc
     have HW3:=Lib.hid (HW2.out.trans (if_neg (by simp)))
     by_cases hu:u=d.size
     · have eu:(((u:Nat):Int) != (d.size:Int))=false:=by rw [bne_eq_false_iff_eq]; omega
       have HF:=Lib.hid ((HW3.out.trans (if_neg (by simp [hu]))).trans (HFF.out x))
       clear hu
       by_cases h1:(65000:Int)<wh
       · have HV:=Lib.hid (HF.out.trans (if_pos h1))
         go_wp2
         go_returns
         exact ⟨by rw [HV.out]; rfl,HU2.out⟩
       · have HF1:=Lib.hid (HF.out.trans (if_neg h1))
         by_cases h2:(x.size:Int)=wh
         · have e2:((x.size:Int) != wh)=false:=by rw [bne_eq_false_iff_eq]; exact h2
           have HF2:=Lib.hid (HF1.out.trans (if_neg (by simp [h2])))
           have HS:=Lib.hid (fun z=>QG x z (by omega))
           go_upto_region 12 with fail
           clear h2 kA
           rcases hk with rfl | rfl
           · skip
             refine wp_region_held_drew (S:=fun w'=>Blk w' g [.string p,.int .i64 8,.int .u32 (sum:Nat),.int .i64 l,.int .i64 wh,.int .i64 1,.int .i64 md,.int .u32 (t:Nat),.int .i64 pos] 26∧Upd [] w w') (by kernel_rfl) ⟨HB2.out.drew,HU2.out.drew⟩ (fun hHeld=>hdN ?_)
             refine hdT 0 (some 41) ?_; refine hdT 1 (some 42) ?_ (hy:=by intro w0 hSw; have q0:=hSw.1.cell 5 rfl; go_simp; try with_reducible rfl)
             refine hdT 2 (some 43) ?_; refine hdT 3 (some 44) ?_; refine hdT 4 (some 45) ?_; refine hdT 6 (some 47) ?_
             refine hdT 7 (some 48) ?_ (hy:=by intro w0 hSw; have q0:=hSw.1.cell 2 rfl; go_simp; try with_reducible rfl)
             refine hdO 5 (fun K hK=>?_)
             go_simp
             refine (HS.out _).mono ?_
             rintro e z1 ⟨rfl,hz1⟩
             go_wp2
             refine hK.out _ _ ⟨hHeld.1.upd hz1 (by simp),hHeld.2.then hz1⟩ (fun hHeld=>hdN ?_)
             clear hK K
             refine hdT 8 (some 49) ?_; refine hdT 9 (some 50) ?_; refine hdT 10 (some 40) ?_
             refine wpAnyH_done (by kernel_rfl) ?_ 0
             by_cases h3:yA x=sum
             · have e3:(((yA x:Nat):Int) != ((sum:Nat):Int))=false:=by rw [bne_eq_false_iff_eq]; omega
               have HV:=Lib.hid (HF2.out.trans (if_neg (by simp [h3])))
               clear h3
               go_wp2
               go_returns
               exact ⟨by rw [HV.out]; rfl,hHeld.2⟩
             · have e3:(((yA x:Nat):Int) != ((sum:Nat):Int))=true:=by rw [bne_iff_ne]; omega
               have HV:=Lib.hid (HF2.out.trans (if_pos ⟨by trivial,h3⟩))
               clear h3
               go_wp2
               go_returns
               exact ⟨by rw [HV.out]; rfl,hHeld.2⟩
           · have HV:=Lib.hid (HF2.out.trans (if_neg (by simp)))
             refine wp_region_held_drew (S:=fun w'=>Blk w' g [.string p,.int .i64 8,.int .u32 (sum:Nat),.int .i64 l,.int .i64 wh,.int .i64 2,.int .i64 md,.int .u32 (t:Nat),.int .i64 pos] 26∧Upd [] w w') (by kernel_rfl) ⟨HB2.out.drew,HU2.out.drew⟩ (fun hHeld=>hdN ?_)
             refine hdT 0 (some 41) ?_; refine hdT 1 (some 42) ?_ (hy:=by intro w0 hSw; have q0:=hSw.1.cell 5 rfl; go_simp; try with_reducible rfl)
             refine hdT 2 (some 43) ?_; refine hdT 3 (some 44) ?_; refine hdK 4 (some 45) ?_; refine hdK 5 (some 46) ?_; refine hdK 6 (some 47) ?_
             refine hdK 7 (some 48) ?_; refine hdK 8 (some 49) ?_; refine hdT 9 (some 50) ?_; refine hdT 10 (some 40) ?_
             refine wpAnyH_done (by kernel_rfl) ?_ 0
             go_wp2
             go_returns
             exact ⟨by rw [HV.out]; rfl,hHeld.2⟩
         · have e2:((x.size:Int) != wh)=true:=by rw [bne_iff_ne]; exact h2
           have HV:=Lib.hid (HF1.out.trans (if_pos h2))
           clear h2
           go_wp2
           go_returns
           exact ⟨by rw [HV.out]; rfl,HU2.out⟩
     · have eu:(((u:Nat):Int) != (d.size:Int))=true:=by rw [bne_iff_ne]; omega
       have HV:=Lib.hid (HW3.out.trans (if_pos hu))
       clear hu
       go_wp2
       go_returns
       exact ⟨by rw [HV.out]; rfl,HU2.out⟩
   · have ec:(((c:Nat):Int) != 0)=true:=by rw [bne_iff_ne]; omega
     have HV:=Lib.hid (HW2.out.trans (if_pos hc))
     clear hc
     go_wp2
     go_returns
     exact ⟨by rw [HV.out]; rfl,HU2.out⟩
 · have HF:=Lib.hid ((HW.out.trans (if_neg hm)).trans (HFF.out d))
   have em:(m==8)=false:=by rw [beq_eq_false_iff_ne]; exact hm
   clear HW HOF hm
   by_cases h1:(65000:Int)<wh
   · have HV:=Lib.hid (HF.out.trans (if_pos h1))
     go_wp2
     go_returns
     exact ⟨by rw [HV.out]; rfl,HU.out⟩
   · have HF1:=Lib.hid (HF.out.trans (if_neg h1))
     by_cases h2:(d.size:Int)=wh
     · have e2:((d.size:Int) != wh)=false:=by rw [bne_eq_false_iff_eq]; exact h2
       have HF2:=Lib.hid (HF1.out.trans (if_neg (by simp [h2])))
       have HS:=Lib.hid (fun z=>QG d z (by omega))
       go_upto_region 12 with fail
       clear h2 kA
       rcases hk with rfl | rfl
       · skip
         refine wp_region_held_drew (S:=fun w'=>Blk w' g [.string p,.int .i64 m,.int .u32 (sum:Nat),.int .i64 l,.int .i64 wh,.int .i64 1,.int .i64 md,.int .u32 (t:Nat),.int .i64 pos] 26∧Upd [] w w') (by kernel_rfl) ⟨HB.out.drew,HU.out.drew⟩ (fun hHeld=>hdN ?_)
         refine hdT 0 (some 41) ?_; refine hdT 1 (some 42) ?_ (hy:=by intro w0 hSw; have q0:=hSw.1.cell 5 rfl; go_simp; try with_reducible rfl)
         refine hdT 2 (some 43) ?_; refine hdT 3 (some 44) ?_; refine hdT 4 (some 45) ?_; refine hdT 6 (some 47) ?_
         refine hdT 7 (some 48) ?_ (hy:=by intro w0 hSw; have q0:=hSw.1.cell 2 rfl; go_simp; try with_reducible rfl)
         refine hdO 5 (fun K hK=>?_)
         go_simp
         refine (HS.out _).mono ?_
         rintro e z1 ⟨rfl,hz1⟩
         go_wp2
         refine hK.out _ _ ⟨hHeld.1.upd hz1 (by simp),hHeld.2.then hz1⟩ (fun hHeld=>hdN ?_)
         clear hK K
         refine hdT 8 (some 49) ?_; refine hdT 9 (some 50) ?_; refine hdT 10 (some 40) ?_
         refine wpAnyH_done (by kernel_rfl) ?_ 0
         by_cases h3:yA d=sum
         · have e3:(((yA d:Nat):Int) != ((sum:Nat):Int))=false:=by rw [bne_eq_false_iff_eq]; omega
           have HV:=Lib.hid (HF2.out.trans (if_neg (by simp [h3])))
           clear h3
           go_wp2
           go_returns
           exact ⟨by rw [HV.out]; rfl,hHeld.2⟩
         · have e3:(((yA d:Nat):Int) != ((sum:Nat):Int))=true:=by rw [bne_iff_ne]; omega
           have HV:=Lib.hid (HF2.out.trans (if_pos ⟨by trivial,h3⟩))
           clear h3
           go_wp2
           go_returns
           exact ⟨by rw [HV.out]; rfl,hHeld.2⟩
       · have HV:=Lib.hid (HF2.out.trans (if_neg (by simp)))
         refine wp_region_held_drew (S:=fun w'=>Blk w' g [.string p,.int .i64 m,.int .u32 (sum:Nat),.int .i64 l,.int .i64 wh,.int .i64 2,.int .i64 md,.int .u32 (t:Nat),.int .i64 pos] 26∧Upd [] w w') (by kernel_rfl) ⟨HB.out.drew,HU.out.drew⟩ (fun hHeld=>hdN ?_)
         refine hdT 0 (some 41) ?_; refine hdT 1 (some 42) ?_ (hy:=by intro w0 hSw; have q0:=hSw.1.cell 5 rfl; go_simp; try with_reducible rfl)
         refine hdT 2 (some 43) ?_; refine hdT 3 (some 44) ?_; refine hdK 4 (some 45) ?_; refine hdK 5 (some 46) ?_; refine hdK 6 (some 47) ?_
         refine hdK 7 (some 48) ?_; refine hdK 8 (some 49) ?_; refine hdT 9 (some 50) ?_; refine hdT 10 (some 40) ?_
         refine wpAnyH_done (by kernel_rfl) ?_ 0
         go_wp2
         go_returns
         exact ⟨by rw [HV.out]; rfl,hHeld.2⟩
     · have e2:((d.size:Int) != wh)=true:=by rw [bne_iff_ne]; exact h2
       have HV:=Lib.hid (HF1.out.trans (if_pos h2))
       clear h2
       go_wp2
       go_returns
       exact ⟨by rw [HV.out]; rfl,HU.out⟩
end Go.Proofs.YtfkcdnaghndgfaaGreatDoor
namespace Go.Proofs.YtfkcdnaghndgfaaGreatDoor
open Go.RowKit
set_option maxRecDepth 100000 in
set_option maxHeartbeats 4000000 in
theorem zgg (q:ByteArray) (m sum l wh:Nat) (k md:Int) (t:Nat) (pos:Int) (beg flags:Nat) (nm:ByteArray) (name:List Nat) (w:World) :
 Calls Tryz.prog 60 #[.agg #[.string q,.int .i64 (m:Nat),.int .u32 (sum:Nat),.int .i64 (l:Nat),.int .i64 (wh:Nat),.int .i64 k,.int .i64 md,.int .u32 (t:Nat),.int .i64 pos,.int .u64 (beg:Nat),.int .u64 (flags:Nat),.string nm]] w fun e w'=>e = .returned (.bool (yk ⟨beg,flags,m,t,sum,l,wh,name⟩))∧Upd [] w w':=by
 by_cases h1:beg=67324752
 rotate_left
 · have HF:Hid (yk ⟨beg,flags,m,t,sum,l,wh,name⟩=false):=Lib.hid (by unfold yk; simp [h1])
   have t1:((beg:Int)==67324752)=false:=by rw [beq_eq_false_iff_ne]; omega
   go_enter Tryz.func60,Tryz.ntmps60
   go_wp2
   go_ret
   exact ⟨by rw [HF.out]; rfl,(Upd.refl _ _).alloc _⟩
 · by_cases h2:flags=2048∨flags=2056
   rotate_left
   · have HF:Hid (yk ⟨beg,flags,m,t,sum,l,wh,name⟩=false):=Lib.hid (by
      unfold yk
      have : ¬ flags=2048:=by omega
      have : ¬ flags=2056:=by omega
      simp [*])
     have t1:((beg:Int)==67324752)=true:=by rw [beq_iff_eq]; omega
     have t2:((flags:Int)==2048)=false:=by rw [beq_eq_false_iff_ne]; omega
     have t3:((flags:Int)==2056)=false:=by rw [beq_eq_false_iff_ne]; omega
     go_enter Tryz.func60,Tryz.ntmps60
     go_wp2
     go_ret
     exact ⟨by rw [HF.out]; rfl,(Upd.refl _ _).alloc _⟩
   · by_cases h3:m=0∨m=8
     rotate_left
     · rcases h2 with h2 | h2
       · have hfl:flags=2048:=h2
         have HF:Hid (yk ⟨beg,flags,m,t,sum,l,wh,name⟩=false):=Lib.hid (by
          unfold yk
          have : ¬ m=0:=by omega
          have : ¬ m=8:=by omega
          simp [*])
         have t1:((beg:Int)==67324752)=true:=by rw [beq_iff_eq]; omega
         have t2:((flags:Int)==2048)=true:=by rw [beq_iff_eq]; omega
         have t4:((m:Int)==0)=false:=by rw [beq_eq_false_iff_ne]; omega
         have t5:((m:Int)==8)=false:=by rw [beq_eq_false_iff_ne]; omega
         go_enter Tryz.func60,Tryz.ntmps60
         go_wp2
         go_ret
         exact ⟨by rw [HF.out]; rfl,(Upd.refl _ _).alloc _⟩
       · have hfl:flags=2056:=h2
         have HF:Hid (yk ⟨beg,flags,m,t,sum,l,wh,name⟩=false):=Lib.hid (by
          unfold yk
          have : ¬ m=0:=by omega
          have : ¬ m=8:=by omega
          simp [*])
         have t1:((beg:Int)==67324752)=true:=by rw [beq_iff_eq]; omega
         have t2:((flags:Int)==2048)=false:=by rw [beq_eq_false_iff_ne]; omega
         have t3:((flags:Int)==2056)=true:=by rw [beq_iff_eq]; omega
         have t4:((m:Int)==0)=false:=by rw [beq_eq_false_iff_ne]; omega
         have t5:((m:Int)==8)=false:=by rw [beq_eq_false_iff_ne]; omega
         go_enter Tryz.func60,Tryz.ntmps60
         go_wp2
         go_ret
         exact ⟨by rw [HF.out]; rfl,(Upd.refl _ _).alloc _⟩
     · rcases h2 with h2 | h2
       · rcases h3 with h3 | h3
         · have HF:Hid (yk ⟨beg,flags,m,t,sum,l,wh,name⟩=true):=Lib.hid (by unfold yk; simp [h1,h2,h3])
           have t1:((beg:Int)==67324752)=true:=by rw [beq_iff_eq]; omega
           have t2:((flags:Int)==2048)=true:=by rw [beq_iff_eq]; omega
           have t4:((m:Int)==0)=true:=by rw [beq_iff_eq]; omega
           go_enter Tryz.func60,Tryz.ntmps60
           go_wp2
           go_ret
           exact ⟨by rw [HF.out]; rfl,(Upd.refl _ _).alloc _⟩
         · have HF:Hid (yk ⟨beg,flags,m,t,sum,l,wh,name⟩=true):=Lib.hid (by unfold yk; simp [h1,h2,h3])
           have t1:((beg:Int)==67324752)=true:=by rw [beq_iff_eq]; omega
           have t2:((flags:Int)==2048)=true:=by rw [beq_iff_eq]; omega
           have t4:((m:Int)==0)=false:=by rw [beq_eq_false_iff_ne]; omega
           have t5:((m:Int)==8)=true:=by rw [beq_iff_eq]; omega
           go_enter Tryz.func60,Tryz.ntmps60
           go_wp2
           go_ret
           exact ⟨by rw [HF.out]; rfl,(Upd.refl _ _).alloc _⟩
       · rcases h3 with h3 | h3
         · by_cases e1:sum=0
           rotate_left
           · have HF:Hid (yk ⟨beg,flags,m,t,sum,l,wh,name⟩=false):=Lib.hid (by unfold yk; simp [h1,h2,h3,e1])
             have t1:((beg:Int)==67324752)=true:=by rw [beq_iff_eq]; omega
             have t2:((flags:Int)==2048)=false:=by rw [beq_eq_false_iff_ne]; omega
             have t3:((flags:Int)==2056)=true:=by rw [beq_iff_eq]; omega
             have t4:((m:Int)==0)=true:=by rw [beq_iff_eq]; omega
             have t6:((sum:Int)==0)=false:=by rw [beq_eq_false_iff_ne]; omega
             go_enter Tryz.func60,Tryz.ntmps60
             go_wp2
             go_ret
             exact ⟨by rw [HF.out]; rfl,(Upd.refl _ _).alloc _⟩
           · by_cases e2:l=0
             rotate_left
             · have HF:Hid (yk ⟨beg,flags,m,t,sum,l,wh,name⟩=false):=Lib.hid (by unfold yk; simp [h1,h2,h3,e1,e2])
               have t1:((beg:Int)==67324752)=true:=by rw [beq_iff_eq]; omega
               have t2:((flags:Int)==2048)=false:=by rw [beq_eq_false_iff_ne]; omega
               have t3:((flags:Int)==2056)=true:=by rw [beq_iff_eq]; omega
               have t4:((m:Int)==0)=true:=by rw [beq_iff_eq]; omega
               have t6:((sum:Int)==0)=true:=by rw [beq_iff_eq]; omega
               have t7:((l:Int)==0)=false:=by rw [beq_eq_false_iff_ne]; omega
               go_enter Tryz.func60,Tryz.ntmps60
               go_wp2
               go_ret
               exact ⟨by rw [HF.out]; rfl,(Upd.refl _ _).alloc _⟩
             · by_cases e3:wh=0
               rotate_left
               · have HF:Hid (yk ⟨beg,flags,m,t,sum,l,wh,name⟩=false):=Lib.hid (by unfold yk; simp [h1,h2,h3,e1,e2,e3])
                 have t1:((beg:Int)==67324752)=true:=by rw [beq_iff_eq]; omega
                 have t2:((flags:Int)==2048)=false:=by rw [beq_eq_false_iff_ne]; omega
                 have t3:((flags:Int)==2056)=true:=by rw [beq_iff_eq]; omega
                 have t4:((m:Int)==0)=true:=by rw [beq_iff_eq]; omega
                 have t6:((sum:Int)==0)=true:=by rw [beq_iff_eq]; omega
                 have t7:((l:Int)==0)=true:=by rw [beq_iff_eq]; omega
                 have t8:((wh:Int)==0)=false:=by rw [beq_eq_false_iff_ne]; omega
                 go_enter Tryz.func60,Tryz.ntmps60
                 go_wp2
                 go_ret
                 exact ⟨by rw [HF.out]; rfl,(Upd.refl _ _).alloc _⟩
               · have HF:Hid (yk ⟨beg,flags,m,t,sum,l,wh,name⟩=true):=Lib.hid (by unfold yk; simp [h1,h2,h3,e1,e2,e3])
                 have t1:((beg:Int)==67324752)=true:=by rw [beq_iff_eq]; omega
                 have t2:((flags:Int)==2048)=false:=by rw [beq_eq_false_iff_ne]; omega
                 have t3:((flags:Int)==2056)=true:=by rw [beq_iff_eq]; omega
                 have t4:((m:Int)==0)=true:=by rw [beq_iff_eq]; omega
                 have t6:((sum:Int)==0)=true:=by rw [beq_iff_eq]; omega
                 have t7:((l:Int)==0)=true:=by rw [beq_iff_eq]; omega
                 have t8:((wh:Int)==0)=true:=by rw [beq_iff_eq]; omega
                 go_enter Tryz.func60,Tryz.ntmps60
                 go_wp2
                 go_ret
                 exact ⟨by rw [HF.out]; rfl,(Upd.refl _ _).alloc _⟩
         · by_cases e1:sum=0
           rotate_left
           · have HF:Hid (yk ⟨beg,flags,m,t,sum,l,wh,name⟩=false):=Lib.hid (by unfold yk; simp [h1,h2,h3,e1])
             have t1:((beg:Int)==67324752)=true:=by rw [beq_iff_eq]; omega
             have t2:((flags:Int)==2048)=false:=by rw [beq_eq_false_iff_ne]; omega
             have t3:((flags:Int)==2056)=true:=by rw [beq_iff_eq]; omega
             have t4:((m:Int)==0)=false:=by rw [beq_eq_false_iff_ne]; omega
             have t5:((m:Int)==8)=true:=by rw [beq_iff_eq]; omega
             have t6:((sum:Int)==0)=false:=by rw [beq_eq_false_iff_ne]; omega
             go_enter Tryz.func60,Tryz.ntmps60
             go_wp2
             go_ret
             exact ⟨by rw [HF.out]; rfl,(Upd.refl _ _).alloc _⟩
           · by_cases e2:l=0
             rotate_left
             · have HF:Hid (yk ⟨beg,flags,m,t,sum,l,wh,name⟩=false):=Lib.hid (by unfold yk; simp [h1,h2,h3,e1,e2])
               have t1:((beg:Int)==67324752)=true:=by rw [beq_iff_eq]; omega
               have t2:((flags:Int)==2048)=false:=by rw [beq_eq_false_iff_ne]; omega
               have t3:((flags:Int)==2056)=true:=by rw [beq_iff_eq]; omega
               have t4:((m:Int)==0)=false:=by rw [beq_eq_false_iff_ne]; omega
               have t5:((m:Int)==8)=true:=by rw [beq_iff_eq]; omega
               have t6:((sum:Int)==0)=true:=by rw [beq_iff_eq]; omega
               have t7:((l:Int)==0)=false:=by rw [beq_eq_false_iff_ne]; omega
               go_enter Tryz.func60,Tryz.ntmps60
               go_wp2
               go_ret
               exact ⟨by rw [HF.out]; rfl,(Upd.refl _ _).alloc _⟩
             · by_cases e3:wh=0
               rotate_left
               · have HF:Hid (yk ⟨beg,flags,m,t,sum,l,wh,name⟩=false):=Lib.hid (by unfold yk; simp [h1,h2,h3,e1,e2,e3])
                 have t1:((beg:Int)==67324752)=true:=by rw [beq_iff_eq]; omega
                 have t2:((flags:Int)==2048)=false:=by rw [beq_eq_false_iff_ne]; omega
                 have t3:((flags:Int)==2056)=true:=by rw [beq_iff_eq]; omega
                 have t4:((m:Int)==0)=false:=by rw [beq_eq_false_iff_ne]; omega
                 have t5:((m:Int)==8)=true:=by rw [beq_iff_eq]; omega
                 have t6:((sum:Int)==0)=true:=by rw [beq_iff_eq]; omega
                 have t7:((l:Int)==0)=true:=by rw [beq_iff_eq]; omega
                 have t8:((wh:Int)==0)=false:=by rw [beq_eq_false_iff_ne]; omega
                 go_enter Tryz.func60,Tryz.ntmps60
                 go_wp2
                 go_ret
                 exact ⟨by rw [HF.out]; rfl,(Upd.refl _ _).alloc _⟩
               · have HF:Hid (yk ⟨beg,flags,m,t,sum,l,wh,name⟩=true):=Lib.hid (by unfold yk; simp [h1,h2,h3,e1,e2,e3])
                 have t1:((beg:Int)==67324752)=true:=by rw [beq_iff_eq]; omega
                 have t2:((flags:Int)==2048)=false:=by rw [beq_eq_false_iff_ne]; omega
                 have t3:((flags:Int)==2056)=true:=by rw [beq_iff_eq]; omega
                 have t4:((m:Int)==0)=false:=by rw [beq_eq_false_iff_ne]; omega
                 have t5:((m:Int)==8)=true:=by rw [beq_iff_eq]; omega
                 have t6:((sum:Int)==0)=true:=by rw [beq_iff_eq]; omega
                 have t7:((l:Int)==0)=true:=by rw [beq_iff_eq]; omega
                 have t8:((wh:Int)==0)=true:=by rw [beq_iff_eq]; omega
                 go_enter Tryz.func60,Tryz.ntmps60
                 go_wp2
                 go_ret
                 exact ⟨by rw [HF.out]; rfl,(Upd.refl _ _).alloc _⟩
theorem zht (e:Nat) (w:World) (he:e<100):Calls Tryz.prog 56 #[.int .i64 (e:Nat)] w fun r w'=>r = .returned (.tuple #[.agg #[.string { data := #[] },.int .i64 0,.int .u32 0,.int .i64 0,.int .i64 0,.int .i64 0,.int .i64 0,.int .u32 0,.int .i64 0],.int .i64 0,.bool false,.int .i64 (e:Nat)])∧Upd [] w w':=by
 go_enter Tryz.func56,Tryz.ntmps56
 go_wp2
 (try simp only [Exit.inBlock,Exit.then]); refine bodyPost_ret (zO rfl _ _ w.heap.size _ _ _ _ _ _ _ _ _ rfl (Blk.new w [.string { data := #[] },.int .i64 0,.int .u32 0,.int .i64 0,.int .i64 0,.int .i64 0,.int .i64 0,.int .u32 0,.int .i64 0] 26)) rfl ⟨rfl,(Upd.refl _ _).alloc _⟩
end Go.Proofs.YtfkcdnaghndgfaaGreatDoor
namespace Go.Proofs.YtfkcdnaghndgfaaGreatDoor
open Go.RowKit
set_option maxRecDepth 100000 in
set_option maxHeartbeats 12800000 in
theorem Wp (s:ByteArray) (a:Int) (w:World) (hs:s.size≤1000000):Calls Tryz.prog 26 #[.string s,.int .i64 a] w fun e w'=>e = .returned (Vr (zh s a))∧Upd [] w w':=by
 have BZ : ∀ e:Nat,e<100→Hid (∀ w,Calls Tryz.prog 56 #[.int .i64 (e:Nat)] w fun r w'=>r = .returned (.tuple #[.agg #[.string { data := #[] },.int .i64 0,.int .u32 0,.int .i64 0,.int .i64 0,.int .i64 0,.int .i64 0,.int .u32 0,.int .i64 0],.int .i64 0,.bool false,.int .i64 (e:Nat)])∧Upd [] w w'):=fun e he=>Lib.hid (fun w=>zht e w he)
 have B3:=BZ 3 (by omega)
 have B2:=BZ 2 (by omega)
 have B5:=BZ 5 (by omega)
 have B13:=BZ 13 (by omega)
 clear BZ
 have S:Hid (Rd1 w w.heap.size (w.alloc (.cells #[.string { data := #[] },.int .i64 0,.int .u32 0,.int .i64 0,.int .i64 0,.int .i64 0,.int .i64 0,.int .u32 0,.int .i64 0] 26))):=Lib.hid ⟨Nat.le_refl _,Blk.new w [.string { data := #[] },.int .i64 0,.int .u32 0,.int .i64 0,.int .i64 0,.int .i64 0,.int .i64 0,.int .u32 0,.int .i64 0] 26,(Upd.refl [] w).alloc _⟩
 by_cases ha:a<0∨(s.size:Int)<a
 · have HV:Hid (zh s a=(qk,0,false,3)):=Lib.hid (if_pos ha)
   rcases (by omega:a<0∨(¬ a<0∧(s.size:Int)<a)) with h1 | ⟨h0,h1⟩
   all_goals
    clear ha
    go_enter Tryz.func26,Tryz.ntmps26
    go_upto_region 3 with fail
    change Code.wp _ _ _ _ (w.alloc (.cells #[.string { data := #[] },.int .i64 0,.int .u32 0,.int .i64 0,.int .i64 0,.int .i64 0,.int .i64 0,.int .u32 0,.int .i64 0] 26))
    generalize w.alloc (.cells #[.string { data := #[] },.int .i64 0,.int .u32 0,.int .i64 0,.int .i64 0,.int .i64 0,.int .i64 0,.int .u32 0,.int .i64 0] 26)=w1 at *
    generalize w.heap.size=r0 at *
    go_wp2_with fail
    refine (B3.out _).mono ?_
    rintro e v1 ⟨rfl,hu⟩
    have S:=Lib.hid (S.out.upd hu (by simp))
    have cA:=S.out.2.1.all
    have fA:=S.out.2.1.frz
    go_wp2_with fail
    (try simp only [Exit.inBlock,Exit.then]); refine bodyPost_ret (zO rfl _ _ r0 _ _ _ _ _ _ _ _ _ rfl (Blk.set9 S.out.2.1 _ _ _ _ _ _ _ _ _)) rfl ⟨?_,Upd.set9 S.out.2.2 (.inr S.out.1) _ _ _ _ _ _ _ _ _⟩
    rw [HV.out]; rfl
 obtain ⟨i,rfl⟩ : ∃ i:Nat,a=i:=⟨a.toNat,by omega⟩
 have hi0:(0:Int)≤(i:Int):=by omega
 have hi1:(i:Int)≤(s.size:Int):=by omega
 obtain ⟨x,hx⟩ : ∃ x,s.extract i s.size=x:=⟨_,rfl⟩
 have hxs:x.size≤1000000:=by rw [← hx,ByteArray.size_extract]; omega
 have HV0:Hid (zh s i=Xy x i):=Lib.hid (by unfold zh; rw [if_neg ha,← hx]; rfl)
 have HXD:=Lib.hid hx
 clear ha hx
 have HBAD:=Lib.hid (zhI x)
 have HFINE:Hid (¬ (x.size<30∨x.size<qZ x)→(hdP ⟨x,0,false⟩).2=⟨x,qZ x,false⟩):=Lib.hid (fun h=>by rw [zaG x (by omega) (by omega)])
 obtain ⟨b1,b2,b3,b4,b5,b6,b7,b8,b9⟩:=zio ⟨x,0,false⟩
 have HV1:Hid (Xy x i=if x.size<30∨x.size<qZ x then (qk,0,false,3) else if yk (hdP ⟨x,0,false⟩).1=false then (qk,0,false,2) else if (zR (hdP ⟨x,0,false⟩).1.name).2.2=false then (qk,0,false,5) else if xk ((zR (hdP ⟨x,0,false⟩).1.name).2.1:Nat) (hdP ⟨x,0,false⟩).1.t=false then (qk,0,false,13) else (zfJ (hdP ⟨x,0,false⟩).1 i,qZ x,decide ((hdP ⟨x,0,false⟩).1.flags=2056),0)):=Lib.hid rfl
 have HV:=Lib.hid (HV0.out.trans HV1.out)
 have HFL:=Lib.hid (fun b w hB=>zbr b ⟨x,0,false⟩ w hB hxs (Nat.zero_le _))
 clear HV0 HV1
 generalize hdP ⟨x,0,false⟩=hr at *
 obtain ⟨⟨beg,flags,m,t,sum,l,wh,nm⟩,rd⟩:=hr
 unfold HdD.cells at HFL
 unfold zfJ at HV
 dsimp only at *
 have hnz:(zd nm).size≤1000000:=by rw [zq]; omega
 have HPT:=Lib.hid (fun w=>zaz (zd nm) w hnz)
 rw [zE nm b8] at HPT
 have HPS:=Lib.hid (fun h=>XX (l:=nm) h)
 generalize zR nm=pp at *
 obtain ⟨pa,kk,okb⟩:=pp
 unfold Xl at HPT
 dsimp only at HPT HPS HV
 clear hnz b8 b9
 go_enter Tryz.func26,Tryz.ntmps26
 have hw0:=World.size_alloc w (.cells #[.string { data := #[] },.int .i64 0,.int .u32 0,.int .i64 0,.int .i64 0,.int .i64 0,.int .i64 0,.int .u32 0,.int .i64 0] 26)
 have HW0:=Lib.hid hw0
 clear hw0
 go_wp2_with fail
 rw [HXD.out]
 refine (jS x _).mono ?_
 rintro e w1 ⟨rfl,hRd,hu⟩
 rw [HW0.out] at hRd ⊢
 have HRd:=Lib.hid hRd
 have S:=Lib.hid (S.out.upd hu (by simp))
 clear hu hRd HXD
 generalize w.heap.size=r0 at *
 go_wp2_with fail
 refine (HFL.out _ _ HRd.out).mono ?_
 rintro e w2 ⟨rfl,hRd,hu⟩
 have S:=Lib.hid (S.out.upd hu (by simp))
 have hq2:r0+1<w2.heap.size:=Blk.lt hRd
 have HRd:=Lib.hid (Blk.alloc hRd (.cells #[.string { data := #[] },.int .i64 (m:Nat),.int .u32 (sum:Nat),.int .i64 (l:Nat),.int .i64 (wh:Nat),.int .i64 0,.int .i64 0,.int .u32 (t:Nat),.int .i64 0,.int .u64 (beg:Nat),.int .u64 (flags:Nat),.string (zd nm)] 95))
 have HQ:=Lib.hid (Blk.new w2 [.string { data := #[] },.int .i64 (m:Nat),.int .u32 (sum:Nat),.int .i64 (l:Nat),.int .i64 (wh:Nat),.int .i64 0,.int .i64 0,.int .u32 (t:Nat),.int .i64 0,.int .u64 (beg:Nat),.int .u64 (flags:Nat),.string (zd nm)] 95)
 have S:=Lib.hid (S.out.upd ((Upd.refl [] w2).alloc (.cells #[.string { data := #[] },.int .i64 (m:Nat),.int .u32 (sum:Nat),.int .i64 (l:Nat),.int .i64 (wh:Nat),.int .i64 0,.int .i64 0,.int .u32 (t:Nat),.int .i64 0,.int .u64 (beg:Nat),.int .u64 (flags:Nat),.string (zd nm)] 95)) (by simp))
 clear hu hRd
 go_wp2_with fail
 generalize w2.heap.size=q0 at *
 refine (HPT.out _).mono ?_
 rintro e w3 ⟨rfl,hu⟩
 have S:=Lib.hid (S.out.upd hu (by simp))
 have HQ:=Lib.hid (HQ.out.upd hu (by simp))
 have HRd:=Lib.hid (Blk.upd HRd.out hu (by simp))
 clear hu
 have gA:=HQ.out.all
 have kA:=HQ.out.frz
 go_wp2_with fail
 clear gA kA
 have hu:Upd [q0] w3 (((w3.setCell ⟨q0,0,none⟩ (.string (zd pa))).setCell ⟨q0,5,none⟩ (.int .i64 (kk:Nat))).setCell ⟨q0,8,none⟩ (.int .i64 (i:Nat))):=(((Upd.refl [q0] w3).setCell (.inl (by simp)) _).setCell (.inl (by simp)) _).setCell (.inl (by simp)) _
 have HQ:=Lib.hid (Blk.set (Blk.set (Blk.set HQ.out 0 (.string (zd pa))) 5 (.int .i64 (kk:Nat))) 8 (.int .i64 (i:Nat)))
 have HRd:=Lib.hid (Blk.upd HRd.out hu (by simp; omega))
 have S:=Lib.hid (S.out.upd hu (by simp; omega))
 clear hu
 generalize ((w3.setCell ⟨q0,0,none⟩ (.string (zd pa))).setCell ⟨q0,5,none⟩ (.int .i64 (kk:Nat))).setCell ⟨q0,8,none⟩ (.int .i64 (i:Nat))=w4 at *
 refine (qS _ _ _ HRd.out).mono ?_
 rintro e w5 ⟨rfl,rfl⟩
 by_cases hlen:x.size<30∨x.size<qZ x
 · have hbd:=HBAD.out hlen
   obtain ⟨rs,rp,rb⟩:=rd
   dsimp only at hbd
   subst hbd
   have HV:=Lib.hid (HV.out.trans (if_pos hlen))
   clear hlen HFINE HBAD
   go_wp2_with fail
   refine (B3.out _).mono ?_
   rintro e v1 ⟨rfl,hu⟩
   have S:=Lib.hid (S.out.upd hu (by simp))
   have cA:=S.out.2.1.all
   have fA:=S.out.2.1.frz
   go_wp2_with fail
   (try simp only [Exit.inBlock,Exit.then]); refine bodyPost_ret (zO rfl _ _ r0 _ _ _ _ _ _ _ _ _ rfl (Blk.set9 S.out.2.1 _ _ _ _ _ _ _ _ _)) rfl ⟨?_,Upd.set9 S.out.2.2 (.inr S.out.1) _ _ _ _ _ _ _ _ _⟩
   rw [HV.out]; rfl
 have hfn:=HFINE.out hlen
 subst hfn
 have HV:=Lib.hid (HV.out.trans (if_neg hlen))
 clear hlen HFINE HBAD
 generalize qZ x=HLN at *
 dsimp only
 have HFM:=Lib.hid (fun w=>zgg (zd pa) m sum l wh (kk:Nat) 0 t (i:Nat) beg flags (zd nm) nm w)
 generalize yk ⟨beg,flags,m,t,sum,l,wh,nm⟩=fb at *
 have gA:=HQ.out.all
 go_wp2_with fail
 refine (HFM.out _).mono ?_
 rintro e w6 ⟨rfl,hu⟩
 have S:=Lib.hid (S.out.upd hu (by simp))
 have HQ:=Lib.hid (HQ.out.upd hu (by simp))
 have HRd:=Lib.hid (Blk.upd HRd.out hu (by simp))
 clear hu gA
 cases fb with
 | false =>
   have HV:=Lib.hid (HV.out.trans (if_pos rfl))
   go_wp2_with fail
   refine (B2.out _).mono ?_
   rintro e v1 ⟨rfl,hu⟩
   have S:=Lib.hid (S.out.upd hu (by simp))
   have cA:=S.out.2.1.all
   have fA:=S.out.2.1.frz
   go_wp2_with fail
   (try simp only [Exit.inBlock,Exit.then]); refine bodyPost_ret (zO rfl _ _ r0 _ _ _ _ _ _ _ _ _ rfl (Blk.set9 S.out.2.1 _ _ _ _ _ _ _ _ _)) rfl ⟨?_,Upd.set9 S.out.2.2 (.inr S.out.1) _ _ _ _ _ _ _ _ _⟩
   rw [HV.out]; rfl
 | true =>
 have HV:=Lib.hid (HV.out.trans (if_neg (by simp)))
 cases okb with
 | false =>
   have HV:=Lib.hid (HV.out.trans (if_pos rfl))
   go_wp2_with fail
   refine (B5.out _).mono ?_
   rintro e v1 ⟨rfl,hu⟩
   have S:=Lib.hid (S.out.upd hu (by simp))
   have cA:=S.out.2.1.all
   have fA:=S.out.2.1.frz
   go_wp2_with fail
   (try simp only [Exit.inBlock,Exit.then]); refine bodyPost_ret (zO rfl _ _ r0 _ _ _ _ _ _ _ _ _ rfl (Blk.set9 S.out.2.1 _ _ _ _ _ _ _ _ _)) rfl ⟨?_,Upd.set9 S.out.2.2 (.inr S.out.1) _ _ _ _ _ _ _ _ _⟩
   rw [HV.out]; rfl
 | true =>
 have HV:=Lib.hid (HV.out.trans (if_neg (by simp)))
 have hps:=HPS.out rfl
 have HTM:=Lib.hid (fun w=>zaD (⟨zd pa,(m:Nat),sum,(l:Nat),(wh:Nat),(kk:Nat),0,t,(i:Nat)⟩:RecD) w ⟨by dsimp only; rw [zq]; omega,by dsimp only; omega,by dsimp only; omega⟩)
 unfold RecD.v at HTM
 dsimp only at HTM
 generalize xk (kk:Int) t=tb at *
 have gA:=HQ.out.all
 go_wp2_with fail
 refine (HTM.out _).mono ?_
 rintro e w7 ⟨rfl,hu⟩
 have S:=Lib.hid (S.out.upd hu (by simp))
 have HQ:=Lib.hid (HQ.out.upd hu (by simp))
 have HRd:=Lib.hid (Blk.upd HRd.out hu (by simp))
 clear hu gA
 cases tb with
 | false =>
   have HV:=Lib.hid (HV.out.trans (if_pos rfl))
   go_wp2_with fail
   refine (B13.out _).mono ?_
   rintro e v1 ⟨rfl,hu⟩
   have S:=Lib.hid (S.out.upd hu (by simp))
   have cA:=S.out.2.1.all
   have fA:=S.out.2.1.frz
   go_wp2_with fail
   (try simp only [Exit.inBlock,Exit.then]); refine bodyPost_ret (zO rfl _ _ r0 _ _ _ _ _ _ _ _ _ rfl (Blk.set9 S.out.2.1 _ _ _ _ _ _ _ _ _)) rfl ⟨?_,Upd.set9 S.out.2.2 (.inr S.out.1) _ _ _ _ _ _ _ _ _⟩
   rw [HV.out]; rfl
 | true =>
 have HV:=Lib.hid (HV.out.trans (if_neg (by simp)))
 have tfl:((flags:Int)==2056)=decide (flags=2056):=by rw [Bool.eq_iff_iff,beq_iff_eq,decide_eq_true_eq]; omega
 go_upto_region 16 with fail
 refine wp_region_held_drew (S:=fun w'=>Blk w' q0 [.string (zd pa),.int .i64 (m:Nat),.int .u32 (sum:Nat),.int .i64 (l:Nat),.int .i64 (wh:Nat),.int .i64 (kk:Nat),.int .i64 0,.int .u32 (t:Nat),.int .i64 (i:Nat),.int .u64 (beg:Nat),.int .u64 (flags:Nat),.string (zd nm)] 95∧Rdr w' (r0+1) ⟨x,HLN,false⟩) (by kernel_rfl) ⟨HQ.out.drew,HRd.out⟩ (fun hHeld=>hdN ?_)
 refine hdT 0 (some 90) ?_; refine hdT 1 (some 91) ?_ (hy:=by intro w0 hSw; have qA:=hSw.1.all; go_simp; try with_reducible rfl)
 refine hdT 2 (some 92) ?_; refine hdT 4 (some 94) ?_
 refine hdT 5 (some 95) ?_ (hy:=by intro w0 hSw; have qA:=hSw.1.all; go_simp; try with_reducible rfl); refine hdT 6 (some 96) ?_
 refine hdO 3 (fun K hK=>?_)
 go_simp
 refine (ZZ _ _ _ hHeld.2).mono ?_
 rintro e z3 ⟨rfl,rfl⟩
 go_wp2
 refine hK.out _ _ hHeld (fun hHeld=>hdN ?_)
 clear hK K
 refine hdO 7 (fun K hK=>?_)
 have cA:=S.out.2.1.all
 have fA:=S.out.2.1.frz
 go_simp
 go_wp2
 refine hK.out _ _ ⟨Blk.drew (Blk.far9 HQ.out (by omega) _ _ _ _ _ _ _ _ _),Blk.drew (Blk.far9 HRd.out (by omega) _ _ _ _ _ _ _ _ _)⟩ (fun hHeld=>hdN ?_)
 clear hK K
 refine hdT 8 (some 5) ?_; refine hdT 9 (some 6) ?_; refine hdT 10 (some 7) ?_
 refine wpAnyH_done (by kernel_rfl) ?_ 0
 go_wp2_with fail
 (try simp only [Exit.inBlock,Exit.then]); refine bodyPost_ret (zO rfl _ _ r0 _ _ _ _ _ _ _ _ _ rfl (Blk.drew (Blk.set9 S.out.2.1 _ _ _ _ _ _ _ _ _))) rfl ⟨?_,(Upd.set9 S.out.2.2 (.inr S.out.1) _ _ _ _ _ _ _ _ _).drew⟩
 rw [HV.out]; simp [Vr,RecD.v]
end Go.Proofs.YtfkcdnaghndgfaaGreatDoor
