/- Package local: form, the closure of Read: walks. -/
import Derived.Test.YtfkcdnaghndgfaaGreatDoorQAU
import Derived.Test.YtfkcdnaghndgfaaGreatDoorQAT
import Derived.Test.YtfkcdnaghndgfaaGreatDoorQAP
set_option linter.unusedVariables false
set_option linter.unusedSimpArgs false
set_option linter.unusedSectionVars false
namespace Go.Proofs.YtfkcdnaghndgfaaGreatDoor
open Go.RowKit
set_option maxRecDepth 100000 in
set_option maxHeartbeats 4000000 in
theorem zfs (q:ByteArray) (m sum l wh:Nat) (k md:Int) (t:Nat) (pos:Int) (beg flags:Nat) (nm:ByteArray) (name:List Nat) (w:World) :
 Calls Tryz.prog 60 #[.agg #[.string q,.int .i64 (m:Nat),.int .u32 (sum:Nat),.int .i64 (l:Nat),.int .i64 (wh:Nat),.int .i64 k,.int .i64 md,.int .u32 (t:Nat),.int .i64 pos,.int .u64 (beg:Nat),.int .u64 (flags:Nat),.string nm]] w fun e w'=>e = .returned (.bool (yq ⟨beg,flags,m,t,sum,l,wh,name⟩))∧Upd [] w w':=by
 by_cases h1:beg=67324752
 rotate_left
 · have HF:Hid (yq ⟨beg,flags,m,t,sum,l,wh,name⟩=false):=Lib.hid (by unfold yq; simp [h1])
   have t1:((beg:Int)==67324752)=false:=by rw [beq_eq_false_iff_ne]; omega
   go_enter Tryz.func60,Tryz.ntmps60
   go_wp2
   go_ret
   exact ⟨by rw [HF.out]; rfl,(Upd.refl _ _).alloc _⟩
 · by_cases h2:flags=2048∨flags=2056
   rotate_left
   · have HF:Hid (yq ⟨beg,flags,m,t,sum,l,wh,name⟩=false):=Lib.hid (by
      unfold yq
      have : ¬ flags=2048:=by omega
      have : ¬ flags=2056:=by omega
      simp [*])
     have t1:((beg:Int)==67324752)=true:=by rw [beq_iff_eq]; omega
     have t2:((flags:Int)==2048)=false:=by rw [beq_eq_false_iff_ne]; omega
     have t3:((flags:Int)==2056)=false:=by rw [beq_eq_false_iff_ne]; omega
     go_enter Tryz.func60,Tryz.ntmps60
     go_wp2
     go_ret
     exact ⟨by rw [HF.out]; rfl,(Upd.refl _ _).alloc _⟩
   · by_cases h3:m=0∨m=8
     rotate_left
     · rcases h2 with h2 | h2
       · have hfl:flags=2048:=h2
         have HF:Hid (yq ⟨beg,flags,m,t,sum,l,wh,name⟩=false):=Lib.hid (by
          unfold yq
          have : ¬ m=0:=by omega
          have : ¬ m=8:=by omega
          simp [*])
         have t1:((beg:Int)==67324752)=true:=by rw [beq_iff_eq]; omega
         have t2:((flags:Int)==2048)=true:=by rw [beq_iff_eq]; omega
         have t4:((m:Int)==0)=false:=by rw [beq_eq_false_iff_ne]; omega
         have t5:((m:Int)==8)=false:=by rw [beq_eq_false_iff_ne]; omega
         go_enter Tryz.func60,Tryz.ntmps60
         go_wp2
         go_ret
         exact ⟨by rw [HF.out]; rfl,(Upd.refl _ _).alloc _⟩
       · have hfl:flags=2056:=h2
         have HF:Hid (yq ⟨beg,flags,m,t,sum,l,wh,name⟩=false):=Lib.hid (by
          unfold yq
          have : ¬ m=0:=by omega
          have : ¬ m=8:=by omega
          simp [*])
         have t1:((beg:Int)==67324752)=true:=by rw [beq_iff_eq]; omega
         have t2:((flags:Int)==2048)=false:=by rw [beq_eq_false_iff_ne]; omega
         have t3:((flags:Int)==2056)=true:=by rw [beq_iff_eq]; omega
         have t4:((m:Int)==0)=false:=by rw [beq_eq_false_iff_ne]; omega
         have t5:((m:Int)==8)=false:=by rw [beq_eq_false_iff_ne]; omega
         go_enter Tryz.func60,Tryz.ntmps60
         go_wp2
         go_ret
         exact ⟨by rw [HF.out]; rfl,(Upd.refl _ _).alloc _⟩
     · rcases h2 with h2 | h2
       · rcases h3 with h3 | h3
         · have HF:Hid (yq ⟨beg,flags,m,t,sum,l,wh,name⟩=true):=Lib.hid (by unfold yq; simp [h1,h2,h3])
           have t1:((beg:Int)==67324752)=true:=by rw [beq_iff_eq]; omega
           have t2:((flags:Int)==2048)=true:=by rw [beq_iff_eq]; omega
           have t4:((m:Int)==0)=true:=by rw [beq_iff_eq]; omega
           go_enter Tryz.func60,Tryz.ntmps60
           go_wp2
           go_ret
           exact ⟨by rw [HF.out]; rfl,(Upd.refl _ _).alloc _⟩
         · have HF:Hid (yq ⟨beg,flags,m,t,sum,l,wh,name⟩=true):=Lib.hid (by unfold yq; simp [h1,h2,h3])
           have t1:((beg:Int)==67324752)=true:=by rw [beq_iff_eq]; omega
           have t2:((flags:Int)==2048)=true:=by rw [beq_iff_eq]; omega
           have t4:((m:Int)==0)=false:=by rw [beq_eq_false_iff_ne]; omega
           have t5:((m:Int)==8)=true:=by rw [beq_iff_eq]; omega
           go_enter Tryz.func60,Tryz.ntmps60
           go_wp2
           go_ret
           exact ⟨by rw [HF.out]; rfl,(Upd.refl _ _).alloc _⟩
       · rcases h3 with h3 | h3
         · by_cases e1:sum=0
           rotate_left
           · have HF:Hid (yq ⟨beg,flags,m,t,sum,l,wh,name⟩=false):=Lib.hid (by unfold yq; simp [h1,h2,h3,e1])
             have t1:((beg:Int)==67324752)=true:=by rw [beq_iff_eq]; omega
             have t2:((flags:Int)==2048)=false:=by rw [beq_eq_false_iff_ne]; omega
             have t3:((flags:Int)==2056)=true:=by rw [beq_iff_eq]; omega
             have t4:((m:Int)==0)=true:=by rw [beq_iff_eq]; omega
             have t6:((sum:Int)==0)=false:=by rw [beq_eq_false_iff_ne]; omega
             go_enter Tryz.func60,Tryz.ntmps60
             go_wp2
             go_ret
             exact ⟨by rw [HF.out]; rfl,(Upd.refl _ _).alloc _⟩
           · by_cases e2:l=0
             rotate_left
             · have HF:Hid (yq ⟨beg,flags,m,t,sum,l,wh,name⟩=false):=Lib.hid (by unfold yq; simp [h1,h2,h3,e1,e2])
               have t1:((beg:Int)==67324752)=true:=by rw [beq_iff_eq]; omega
               have t2:((flags:Int)==2048)=false:=by rw [beq_eq_false_iff_ne]; omega
               have t3:((flags:Int)==2056)=true:=by rw [beq_iff_eq]; omega
               have t4:((m:Int)==0)=true:=by rw [beq_iff_eq]; omega
               have t6:((sum:Int)==0)=true:=by rw [beq_iff_eq]; omega
               have t7:((l:Int)==0)=false:=by rw [beq_eq_false_iff_ne]; omega
               go_enter Tryz.func60,Tryz.ntmps60
               go_wp2
               go_ret
               exact ⟨by rw [HF.out]; rfl,(Upd.refl _ _).alloc _⟩
             · by_cases e3:wh=0
               rotate_left
               · have HF:Hid (yq ⟨beg,flags,m,t,sum,l,wh,name⟩=false):=Lib.hid (by unfold yq; simp [h1,h2,h3,e1,e2,e3])
                 have t1:((beg:Int)==67324752)=true:=by rw [beq_iff_eq]; omega
                 have t2:((flags:Int)==2048)=false:=by rw [beq_eq_false_iff_ne]; omega
                 have t3:((flags:Int)==2056)=true:=by rw [beq_iff_eq]; omega
                 have t4:((m:Int)==0)=true:=by rw [beq_iff_eq]; omega
                 have t6:((sum:Int)==0)=true:=by rw [beq_iff_eq]; omega
                 have t7:((l:Int)==0)=true:=by rw [beq_iff_eq]; omega
                 have t8:((wh:Int)==0)=false:=by rw [beq_eq_false_iff_ne]; omega
                 go_enter Tryz.func60,Tryz.ntmps60
                 go_wp2
                 go_ret
                 exact ⟨by rw [HF.out]; rfl,(Upd.refl _ _).alloc _⟩
               · have HF:Hid (yq ⟨beg,flags,m,t,sum,l,wh,name⟩=true):=Lib.hid (by unfold yq; simp [h1,h2,h3,e1,e2,e3])
                 have t1:((beg:Int)==67324752)=true:=by rw [beq_iff_eq]; omega
                 have t2:((flags:Int)==2048)=false:=by rw [beq_eq_false_iff_ne]; omega
                 have t3:((flags:Int)==2056)=true:=by rw [beq_iff_eq]; omega
                 have t4:((m:Int)==0)=true:=by rw [beq_iff_eq]; omega
                 have t6:((sum:Int)==0)=true:=by rw [beq_iff_eq]; omega
                 have t7:((l:Int)==0)=true:=by rw [beq_iff_eq]; omega
                 have t8:((wh:Int)==0)=true:=by rw [beq_iff_eq]; omega
                 go_enter Tryz.func60,Tryz.ntmps60
                 go_wp2
                 go_ret
                 exact ⟨by rw [HF.out]; rfl,(Upd.refl _ _).alloc _⟩
         · by_cases e1:sum=0
           rotate_left
           · have HF:Hid (yq ⟨beg,flags,m,t,sum,l,wh,name⟩=false):=Lib.hid (by unfold yq; simp [h1,h2,h3,e1])
             have t1:((beg:Int)==67324752)=true:=by rw [beq_iff_eq]; omega
             have t2:((flags:Int)==2048)=false:=by rw [beq_eq_false_iff_ne]; omega
             have t3:((flags:Int)==2056)=true:=by rw [beq_iff_eq]; omega
             have t4:((m:Int)==0)=false:=by rw [beq_eq_false_iff_ne]; omega
             have t5:((m:Int)==8)=true:=by rw [beq_iff_eq]; omega
             have t6:((sum:Int)==0)=false:=by rw [beq_eq_false_iff_ne]; omega
             go_enter Tryz.func60,Tryz.ntmps60
             go_wp2
             go_ret
             exact ⟨by rw [HF.out]; rfl,(Upd.refl _ _).alloc _⟩
           · by_cases e2:l=0
             rotate_left
             · have HF:Hid (yq ⟨beg,flags,m,t,sum,l,wh,name⟩=false):=Lib.hid (by unfold yq; simp [h1,h2,h3,e1,e2])
               have t1:((beg:Int)==67324752)=true:=by rw [beq_iff_eq]; omega
               have t2:((flags:Int)==2048)=false:=by rw [beq_eq_false_iff_ne]; omega
               have t3:((flags:Int)==2056)=true:=by rw [beq_iff_eq]; omega
               have t4:((m:Int)==0)=false:=by rw [beq_eq_false_iff_ne]; omega
               have t5:((m:Int)==8)=true:=by rw [beq_iff_eq]; omega
               have t6:((sum:Int)==0)=true:=by rw [beq_iff_eq]; omega
               have t7:((l:Int)==0)=false:=by rw [beq_eq_false_iff_ne]; omega
               go_enter Tryz.func60,Tryz.ntmps60
               go_wp2
               go_ret
               exact ⟨by rw [HF.out]; rfl,(Upd.refl _ _).alloc _⟩
             · by_cases e3:wh=0
               rotate_left
               · have HF:Hid (yq ⟨beg,flags,m,t,sum,l,wh,name⟩=false):=Lib.hid (by unfold yq; simp [h1,h2,h3,e1,e2,e3])
                 have t1:((beg:Int)==67324752)=true:=by rw [beq_iff_eq]; omega
                 have t2:((flags:Int)==2048)=false:=by rw [beq_eq_false_iff_ne]; omega
                 have t3:((flags:Int)==2056)=true:=by rw [beq_iff_eq]; omega
                 have t4:((m:Int)==0)=false:=by rw [beq_eq_false_iff_ne]; omega
                 have t5:((m:Int)==8)=true:=by rw [beq_iff_eq]; omega
                 have t6:((sum:Int)==0)=true:=by rw [beq_iff_eq]; omega
                 have t7:((l:Int)==0)=true:=by rw [beq_iff_eq]; omega
                 have t8:((wh:Int)==0)=false:=by rw [beq_eq_false_iff_ne]; omega
                 go_enter Tryz.func60,Tryz.ntmps60
                 go_wp2
                 go_ret
                 exact ⟨by rw [HF.out]; rfl,(Upd.refl _ _).alloc _⟩
               · have HF:Hid (yq ⟨beg,flags,m,t,sum,l,wh,name⟩=true):=Lib.hid (by unfold yq; simp [h1,h2,h3,e1,e2,e3])
                 have t1:((beg:Int)==67324752)=true:=by rw [beq_iff_eq]; omega
                 have t2:((flags:Int)==2048)=false:=by rw [beq_eq_false_iff_ne]; omega
                 have t3:((flags:Int)==2056)=true:=by rw [beq_iff_eq]; omega
                 have t4:((m:Int)==0)=false:=by rw [beq_eq_false_iff_ne]; omega
                 have t5:((m:Int)==8)=true:=by rw [beq_iff_eq]; omega
                 have t6:((sum:Int)==0)=true:=by rw [beq_iff_eq]; omega
                 have t7:((l:Int)==0)=true:=by rw [beq_iff_eq]; omega
                 have t8:((wh:Int)==0)=true:=by rw [beq_iff_eq]; omega
                 go_enter Tryz.func60,Tryz.ntmps60
                 go_wp2
                 go_ret
                 exact ⟨by rw [HF.out]; rfl,(Upd.refl _ _).alloc _⟩
theorem zhX (e:Nat) (w:World) (he:e<100):Calls Tryz.prog 56 #[.int .i64 (e:Nat)] w fun r w'=>r = .returned (.tuple #[.agg #[.string { data := #[] },.int .i64 0,.int .u32 0,.int .i64 0,.int .i64 0,.int .i64 0,.int .i64 0,.int .u32 0,.int .i64 0],.int .i64 0,.bool false,.int .i64 (e:Nat)])∧Upd [] w w':=by
 go_enter Tryz.func56,Tryz.ntmps56
 go_wp2
 (try simp only [Exit.inBlock,Exit.then]); refine bodyPost_ret (xy rfl _ _ w.heap.size _ _ _ _ _ _ _ _ _ rfl (Blk.new w [.string { data := #[] },.int .i64 0,.int .u32 0,.int .i64 0,.int .i64 0,.int .i64 0,.int .i64 0,.int .u32 0,.int .i64 0] 26)) rfl ⟨rfl,(Upd.refl _ _).alloc _⟩
end Go.Proofs.YtfkcdnaghndgfaaGreatDoor
namespace Go.Proofs.YtfkcdnaghndgfaaGreatDoor
open Go.RowKit
set_option maxRecDepth 100000 in
set_option maxHeartbeats 12800000 in
theorem zaz (s:ByteArray) (a:Int) (w:World) (hs:s.size≤1000000):Calls Tryz.prog 26 #[.string s,.int .i64 a] w fun e w'=>e = .returned (zgA (zy s a))∧Upd [] w w':=by
 have BZ : ∀ e:Nat,e<100→Hid (∀ w,Calls Tryz.prog 56 #[.int .i64 (e:Nat)] w fun r w'=>r = .returned (.tuple #[.agg #[.string { data := #[] },.int .i64 0,.int .u32 0,.int .i64 0,.int .i64 0,.int .i64 0,.int .i64 0,.int .u32 0,.int .i64 0],.int .i64 0,.bool false,.int .i64 (e:Nat)])∧Upd [] w w'):=fun e he=>Lib.hid (fun w=>zhX e w he)
 have B3:=BZ 3 (by omega)
 have B2:=BZ 2 (by omega)
 have B5:=BZ 5 (by omega)
 have B13:=BZ 13 (by omega)
 clear BZ
 have S:Hid (Rd1 w w.heap.size (w.alloc (.cells #[.string { data := #[] },.int .i64 0,.int .u32 0,.int .i64 0,.int .i64 0,.int .i64 0,.int .i64 0,.int .u32 0,.int .i64 0] 26))):=Lib.hid ⟨Nat.le_refl _,Blk.new w [.string { data := #[] },.int .i64 0,.int .u32 0,.int .i64 0,.int .i64 0,.int .i64 0,.int .i64 0,.int .u32 0,.int .i64 0] 26,(Upd.refl [] w).alloc _⟩
 by_cases ha:a<0∨(s.size:Int)<a
 · have HV:Hid (zy s a=(qX,0,false,3)):=Lib.hid (if_pos ha)
   rcases (by omega:a<0∨(¬ a<0∧(s.size:Int)<a)) with h1 | ⟨h0,h1⟩
   all_goals
    clear ha
    go_enter Tryz.func26,Tryz.ntmps26
    go_upto_region 3 with fail
    change Code.wp _ _ _ _ (w.alloc (.cells #[.string { data := #[] },.int .i64 0,.int .u32 0,.int .i64 0,.int .i64 0,.int .i64 0,.int .i64 0,.int .u32 0,.int .i64 0] 26))
    generalize w.alloc (.cells #[.string { data := #[] },.int .i64 0,.int .u32 0,.int .i64 0,.int .i64 0,.int .i64 0,.int .i64 0,.int .u32 0,.int .i64 0] 26)=w1 at *
    generalize w.heap.size=r0 at *
    go_wp2_with fail
    refine (B3.out _).mono ?_
    rintro e v1 ⟨rfl,hu⟩
    have S:=Lib.hid (S.out.upd hu (by simp))
    have cA:=S.out.2.1.all
    have fA:=S.out.2.1.frz
    go_wp2_with fail
    (try simp only [Exit.inBlock,Exit.then]); refine bodyPost_ret (xy rfl _ _ r0 _ _ _ _ _ _ _ _ _ rfl (Blk.set9 S.out.2.1 _ _ _ _ _ _ _ _ _)) rfl ⟨?_,Upd.set9 S.out.2.2 (.inr S.out.1) _ _ _ _ _ _ _ _ _⟩
    rw [HV.out]; rfl
 obtain ⟨i,rfl⟩ : ∃ i:Nat,a=i:=⟨a.toNat,by omega⟩
 have hi0:(0:Int)≤(i:Int):=by omega
 have hi1:(i:Int)≤(s.size:Int):=by omega
 obtain ⟨x,hx⟩ : ∃ x,s.extract i s.size=x:=⟨_,rfl⟩
 have hxs:x.size≤1000000:=by rw [← hx,ByteArray.size_extract]; omega
 have HV0:Hid (zy s i=XQ x i):=Lib.hid (by unfold zy; rw [if_neg ha,← hx]; rfl)
 have HXD:=Lib.hid hx
 clear ha hx
 have HBAD:=Lib.hid (zhY x)
 have HFINE:Hid (¬ (x.size<30∨x.size<qa x)→(hdP ⟨x,0,false⟩).2=⟨x,qa x,false⟩):=Lib.hid (fun h=>by rw [KQ x (by omega) (by omega)])
 obtain ⟨b1,b2,b3,b4,b5,b6,b7,b8,b9⟩:=zix ⟨x,0,false⟩
 have HV1:Hid (XQ x i=if x.size<30∨x.size<qa x then (qX,0,false,3) else if yq (hdP ⟨x,0,false⟩).1=false then (qX,0,false,2) else if (yl (hdP ⟨x,0,false⟩).1.name).2.2=false then (qX,0,false,5) else if qE ((yl (hdP ⟨x,0,false⟩).1.name).2.1:Nat) (hdP ⟨x,0,false⟩).1.t=false then (qX,0,false,13) else (zc6 (hdP ⟨x,0,false⟩).1 i,qa x,decide ((hdP ⟨x,0,false⟩).1.flags=2056),0)):=Lib.hid rfl
 have HV:=Lib.hid (HV0.out.trans HV1.out)
 have HFL:=Lib.hid (fun b w hB=>zcd b ⟨x,0,false⟩ w hB hxs (Nat.zero_le _))
 clear HV0 HV1
 generalize hdP ⟨x,0,false⟩=hr at *
 obtain ⟨⟨beg,flags,m,t,sum,l,wh,nm⟩,rd⟩:=hr
 unfold HdD.cells at HFL
 unfold zc6 at HV
 dsimp only at *
 have hnz:(zf nm).size≤1000000:=by rw [zu]; omega
 have HPT:=Lib.hid (fun w=>KR (zf nm) w hnz)
 rw [zv nm b8] at HPT
 have HPS:=Lib.hid (fun h=>zbR (l:=nm) h)
 generalize yl nm=pp at *
 obtain ⟨pa,kk,okb⟩:=pp
 unfold zdg at HPT
 dsimp only at HPT HPS HV
 clear hnz b8 b9
 go_enter Tryz.func26,Tryz.ntmps26
 have hw0:=World.size_alloc w (.cells #[.string { data := #[] },.int .i64 0,.int .u32 0,.int .i64 0,.int .i64 0,.int .i64 0,.int .i64 0,.int .u32 0,.int .i64 0] 26)
 have HW0:=Lib.hid hw0
 clear hw0
 go_wp2_with fail
 rw [HXD.out]
 refine (jy x _).mono ?_
 rintro e w1 ⟨rfl,hRd,hu⟩
 rw [HW0.out] at hRd ⊢
 have HRd:=Lib.hid hRd
 have S:=Lib.hid (S.out.upd hu (by simp))
 clear hu hRd HXD
 generalize w.heap.size=r0 at *
 go_wp2_with fail
 refine (HFL.out _ _ HRd.out).mono ?_
 rintro e w2 ⟨rfl,hRd,hu⟩
 have S:=Lib.hid (S.out.upd hu (by simp))
 have hq2:r0+1<w2.heap.size:=Blk.lt hRd
 have HRd:=Lib.hid (Blk.alloc hRd (.cells #[.string { data := #[] },.int .i64 (m:Nat),.int .u32 (sum:Nat),.int .i64 (l:Nat),.int .i64 (wh:Nat),.int .i64 0,.int .i64 0,.int .u32 (t:Nat),.int .i64 0,.int .u64 (beg:Nat),.int .u64 (flags:Nat),.string (zf nm)] 95))
 have HQ:=Lib.hid (Blk.new w2 [.string { data := #[] },.int .i64 (m:Nat),.int .u32 (sum:Nat),.int .i64 (l:Nat),.int .i64 (wh:Nat),.int .i64 0,.int .i64 0,.int .u32 (t:Nat),.int .i64 0,.int .u64 (beg:Nat),.int .u64 (flags:Nat),.string (zf nm)] 95)
 have S:=Lib.hid (S.out.upd ((Upd.refl [] w2).alloc (.cells #[.string { data := #[] },.int .i64 (m:Nat),.int .u32 (sum:Nat),.int .i64 (l:Nat),.int .i64 (wh:Nat),.int .i64 0,.int .i64 0,.int .u32 (t:Nat),.int .i64 0,.int .u64 (beg:Nat),.int .u64 (flags:Nat),.string (zf nm)] 95)) (by simp))
 clear hu hRd
 go_wp2_with fail
 generalize w2.heap.size=q0 at *
 refine (HPT.out _).mono ?_
 rintro e w3 ⟨rfl,hu⟩
 have S:=Lib.hid (S.out.upd hu (by simp))
 have HQ:=Lib.hid (HQ.out.upd hu (by simp))
 have HRd:=Lib.hid (Blk.upd HRd.out hu (by simp))
 clear hu
 have gA:=HQ.out.all
 have kA:=HQ.out.frz
 go_wp2_with fail
 clear gA kA
 have hu:Upd [q0] w3 (((w3.setCell ⟨q0,0,none⟩ (.string (zf pa))).setCell ⟨q0,5,none⟩ (.int .i64 (kk:Nat))).setCell ⟨q0,8,none⟩ (.int .i64 (i:Nat))):=(((Upd.refl [q0] w3).setCell (.inl (by simp)) _).setCell (.inl (by simp)) _).setCell (.inl (by simp)) _
 have HQ:=Lib.hid (Blk.set (Blk.set (Blk.set HQ.out 0 (.string (zf pa))) 5 (.int .i64 (kk:Nat))) 8 (.int .i64 (i:Nat)))
 have HRd:=Lib.hid (Blk.upd HRd.out hu (by simp; omega))
 have S:=Lib.hid (S.out.upd hu (by simp; omega))
 clear hu
 generalize ((w3.setCell ⟨q0,0,none⟩ (.string (zf pa))).setCell ⟨q0,5,none⟩ (.int .i64 (kk:Nat))).setCell ⟨q0,8,none⟩ (.int .i64 (i:Nat))=w4 at *
 refine (qG _ _ _ HRd.out).mono ?_
 rintro e w5 ⟨rfl,rfl⟩
 by_cases hlen:x.size<30∨x.size<qa x
 · have hbd:=HBAD.out hlen
   obtain ⟨rs,rp,rb⟩:=rd
   dsimp only at hbd
   subst hbd
   have HV:=Lib.hid (HV.out.trans (if_pos hlen))
   clear hlen HFINE HBAD
   go_wp2_with fail
   refine (B3.out _).mono ?_
   rintro e v1 ⟨rfl,hu⟩
   have S:=Lib.hid (S.out.upd hu (by simp))
   have cA:=S.out.2.1.all
   have fA:=S.out.2.1.frz
   go_wp2_with fail
   (try simp only [Exit.inBlock,Exit.then]); refine bodyPost_ret (xy rfl _ _ r0 _ _ _ _ _ _ _ _ _ rfl (Blk.set9 S.out.2.1 _ _ _ _ _ _ _ _ _)) rfl ⟨?_,Upd.set9 S.out.2.2 (.inr S.out.1) _ _ _ _ _ _ _ _ _⟩
   rw [HV.out]; rfl
 have hfn:=HFINE.out hlen
 subst hfn
 have HV:=Lib.hid (HV.out.trans (if_neg hlen))
 clear hlen HFINE HBAD
 generalize qa x=HLN at *
 dsimp only
 have HFM:=Lib.hid (fun w=>zfs (zf pa) m sum l wh (kk:Nat) 0 t (i:Nat) beg flags (zf nm) nm w)
 generalize yq ⟨beg,flags,m,t,sum,l,wh,nm⟩=fb at *
 have gA:=HQ.out.all
 go_wp2_with fail
 refine (HFM.out _).mono ?_
 rintro e w6 ⟨rfl,hu⟩
 have S:=Lib.hid (S.out.upd hu (by simp))
 have HQ:=Lib.hid (HQ.out.upd hu (by simp))
 have HRd:=Lib.hid (Blk.upd HRd.out hu (by simp))
 clear hu gA
 cases fb with
 | false =>
   have HV:=Lib.hid (HV.out.trans (if_pos rfl))
   go_wp2_with fail
   refine (B2.out _).mono ?_
   rintro e v1 ⟨rfl,hu⟩
   have S:=Lib.hid (S.out.upd hu (by simp))
   have cA:=S.out.2.1.all
   have fA:=S.out.2.1.frz
   go_wp2_with fail
   (try simp only [Exit.inBlock,Exit.then]); refine bodyPost_ret (xy rfl _ _ r0 _ _ _ _ _ _ _ _ _ rfl (Blk.set9 S.out.2.1 _ _ _ _ _ _ _ _ _)) rfl ⟨?_,Upd.set9 S.out.2.2 (.inr S.out.1) _ _ _ _ _ _ _ _ _⟩
   rw [HV.out]; rfl
 | true =>
 have HV:=Lib.hid (HV.out.trans (if_neg (by simp)))
 cases okb with
 | false =>
   have HV:=Lib.hid (HV.out.trans (if_pos rfl))
   go_wp2_with fail
   refine (B5.out _).mono ?_
   rintro e v1 ⟨rfl,hu⟩
   have S:=Lib.hid (S.out.upd hu (by simp))
   have cA:=S.out.2.1.all
   have fA:=S.out.2.1.frz
   go_wp2_with fail
   (try simp only [Exit.inBlock,Exit.then]); refine bodyPost_ret (xy rfl _ _ r0 _ _ _ _ _ _ _ _ _ rfl (Blk.set9 S.out.2.1 _ _ _ _ _ _ _ _ _)) rfl ⟨?_,Upd.set9 S.out.2.2 (.inr S.out.1) _ _ _ _ _ _ _ _ _⟩
   rw [HV.out]; rfl
 | true =>
 have HV:=Lib.hid (HV.out.trans (if_neg (by simp)))
 have hps:=HPS.out rfl
 have HTM:=Lib.hid (fun w=>zay (⟨zf pa,(m:Nat),sum,(l:Nat),(wh:Nat),(kk:Nat),0,t,(i:Nat)⟩:RecD) w ⟨by dsimp only; rw [zu]; omega,by dsimp only; omega,by dsimp only; omega⟩)
 unfold RecD.v at HTM
 dsimp only at HTM
 generalize qE (kk:Int) t=tb at *
 have gA:=HQ.out.all
 go_wp2_with fail
 refine (HTM.out _).mono ?_
 rintro e w7 ⟨rfl,hu⟩
 have S:=Lib.hid (S.out.upd hu (by simp))
 have HQ:=Lib.hid (HQ.out.upd hu (by simp))
 have HRd:=Lib.hid (Blk.upd HRd.out hu (by simp))
 clear hu gA
 cases tb with
 | false =>
   have HV:=Lib.hid (HV.out.trans (if_pos rfl))
   go_wp2_with fail
   refine (B13.out _).mono ?_
   rintro e v1 ⟨rfl,hu⟩
   have S:=Lib.hid (S.out.upd hu (by simp))
   have cA:=S.out.2.1.all
   have fA:=S.out.2.1.frz
   go_wp2_with fail
   (try simp only [Exit.inBlock,Exit.then]); refine bodyPost_ret (xy rfl _ _ r0 _ _ _ _ _ _ _ _ _ rfl (Blk.set9 S.out.2.1 _ _ _ _ _ _ _ _ _)) rfl ⟨?_,Upd.set9 S.out.2.2 (.inr S.out.1) _ _ _ _ _ _ _ _ _⟩
   rw [HV.out]; rfl
 | true =>
 have HV:=Lib.hid (HV.out.trans (if_neg (by simp)))
 have tfl:((flags:Int)==2056)=decide (flags=2056):=by rw [Bool.eq_iff_iff,beq_iff_eq,decide_eq_true_eq]; omega
 go_upto_region 16 with fail
 refine wp_region_held_drew (S:=fun w'=>Blk w' q0 [.string (zf pa),.int .i64 (m:Nat),.int .u32 (sum:Nat),.int .i64 (l:Nat),.int .i64 (wh:Nat),.int .i64 (kk:Nat),.int .i64 0,.int .u32 (t:Nat),.int .i64 (i:Nat),.int .u64 (beg:Nat),.int .u64 (flags:Nat),.string (zf nm)] 95∧Rdr w' (r0+1) ⟨x,HLN,false⟩) (by kernel_rfl) ⟨HQ.out.drew,HRd.out⟩ (fun hHeld=>hdN ?_)
 refine hdT 0 (some 90) ?_; refine hdT 1 (some 91) ?_ (hy:=by intro w0 hSw; have qA:=hSw.1.all; go_simp; try with_reducible rfl)
 refine hdT 2 (some 92) ?_; refine hdT 4 (some 94) ?_
 refine hdT 5 (some 95) ?_ (hy:=by intro w0 hSw; have qA:=hSw.1.all; go_simp; try with_reducible rfl); refine hdT 6 (some 96) ?_
 refine hdO 3 (fun K hK=>?_)
 go_simp
 refine (Yl _ _ _ hHeld.2).mono ?_
 rintro e z3 ⟨rfl,rfl⟩
 go_wp2
 refine hK.out _ _ hHeld (fun hHeld=>hdN ?_)
 clear hK K
 refine hdO 7 (fun K hK=>?_)
 have cA:=S.out.2.1.all
 have fA:=S.out.2.1.frz
 go_simp
 go_wp2
 refine hK.out _ _ ⟨Blk.drew (Blk.far9 HQ.out (by omega) _ _ _ _ _ _ _ _ _),Blk.drew (Blk.far9 HRd.out (by omega) _ _ _ _ _ _ _ _ _)⟩ (fun hHeld=>hdN ?_)
 clear hK K
 refine hdT 8 (some 5) ?_; refine hdT 9 (some 6) ?_; refine hdT 10 (some 7) ?_
 refine wpAnyH_done (by kernel_rfl) ?_ 0
 go_wp2_with fail
 (try simp only [Exit.inBlock,Exit.then]); refine bodyPost_ret (xy rfl _ _ r0 _ _ _ _ _ _ _ _ _ rfl (Blk.drew (Blk.set9 S.out.2.1 _ _ _ _ _ _ _ _ _))) rfl ⟨?_,(Upd.set9 S.out.2.2 (.inr S.out.1) _ _ _ _ _ _ _ _ _).drew⟩
 rw [HV.out]; simp [zgA,RecD.v]
end Go.Proofs.YtfkcdnaghndgfaaGreatDoor
