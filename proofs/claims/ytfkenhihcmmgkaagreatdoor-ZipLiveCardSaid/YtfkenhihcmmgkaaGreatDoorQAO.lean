/- Package dos: Days and right of whatever numbers: walks. -/
import Derived.Test.YtfkenhihcmmgkaaGreatDoorQAN
set_option linter.unusedVariables false
set_option linter.unusedSimpArgs false
set_option linter.unusedSectionVars false
set_option maxRecDepth 100000
set_option maxHeartbeats 12800000
namespace Go.Proofs.YtfkenhihcmmgkaaGreatDoor
open Go.RowKit
def vC (y m:Int):Int:=if y<1980∨2107<y then 0 else qG y m
theorem zfj (y m:Int) (w:World):Calls Tryz.prog 252 #[.int .i64 y,.int .i64 m] w fun e w'=>e = .returned (.int .i64 (vC y m))∧Upd [] w w':=by
 by_cases h1:y<1980
 · have HV:Hid (vC y m=0):=Hi (if_pos (.inl h1));go_enter Tryz.func252,Tryz.ntmps252;go_wp2;go_returns;exact ⟨by rw [HV.out]; rfl,.refl _ _⟩
 by_cases h2:2107<y
 · have HV:Hid (vC y m=0):=Hi (if_pos (.inr h2));go_enter Tryz.func252,Tryz.ntmps252;go_wp2;go_returns;exact ⟨by rw [HV.out]; rfl,.refl _ _⟩
 by_cases h3:m<1
 · have HV:Hid (vC y m=0):=Hi (by unfold vC qG; rw [if_neg (by omega),if_pos (.inl h3)]);go_enter Tryz.func252,Tryz.ntmps252;go_wp2;go_returns;exact ⟨by rw [HV.out]; rfl,.refl _ _⟩
 by_cases h4:12<m
 · have HV:Hid (vC y m=0):=Hi (by unfold vC qG; rw [if_neg (by omega),if_pos (.inr h4)]);go_enter Tryz.func252,Tryz.ntmps252;go_wp2;go_returns;exact ⟨by rw [HV.out]; rfl,.refl _ _⟩
 · have:=zex y m w (by omega) (by omega) (by omega) (by omega);unfold vC;rw [if_neg (by omega)];exact this
def Yk (y m d h mi s:Int):Bool:=decide (1≤d)&&decide (d≤vC y m)&&(decide (0≤h)&&decide (h<24))&&(decide (0≤mi)&&decide (mi<60))&&(decide (0≤s)&&decide (s<60))&&decide (s%2=0)
theorem zcx (y m d h mi s:Int) (w:World) :
 Calls Tryz.prog 218 #[.agg #[.int .i64 y,.int .i64 m,.int .i64 d,.int .i64 h,.int .i64 mi,.int .i64 s]] w fun e w'=>e = .returned (.bool (Yk y m d h mi s))∧Upd [] w w':=by
 have HD:=Hi (fun w'=>zfj y m w');have HRB:=Hi (show Yk y m d h mi s=(decide (1≤d)&&decide (d≤vC y m)&&(decide (0≤h)&&decide (h<24))&&(decide (0≤mi)&&decide (mi<60))&&(decide (0≤s)&&decide (s<60))&&decide (s%2=0)) from rfl);generalize Yk y m d h mi s=B at *;generalize vC y m=D at *;go_enter Tryz.func218,Tryz.ntmps218;go_upto_region 2 with fail
 have hB:=Blk.new w [.int .i64 y,.int .i64 m,.int .i64 d,.int .i64 h,.int .i64 mi,.int .i64 s] 271;have hU:Upd [] w (w.alloc (.cells #[.int .i64 y,.int .i64 m,.int .i64 d,.int .i64 h,.int .i64 mi,.int .i64 s] 271)):=(Upd.refl [] w).alloc _;change Code.wp _ _ _ _ (w.alloc (.cells #[.int .i64 y,.int .i64 m,.int .i64 d,.int .i64 h,.int .i64 mi,.int .i64 s] 271));generalize w.alloc (.cells #[.int .i64 y,.int .i64 m,.int .i64 d,.int .i64 h,.int .i64 mi,.int .i64 s] 271)=w1 at *;generalize hb:w.heap.size=b at *;have HW:=Hi hb;clear hb;have c0:=hB.cell 0 rfl;have c1:=hB.cell 1 rfl;have c2:=hB.cell 2 rfl;have c3:=hB.cell 3 rfl;have c4:=hB.cell 4 rfl;have c5:=hB.cell 5 rfl;cases t1:decide (1≤d) with
 | true =>
   cases t2:decide (d≤D) with
   | true =>
     cases t3:(decide (0≤h)&&decide (h<24)) with
     | true =>
       cases t4:(decide (0≤mi)&&decide (mi<60)) with
       | true =>
         cases t5:(decide (0≤s)&&decide (s<60)) with
         | true =>
           have I2:=Hi (fun w'=>show Calls Tryz.prog 251 #[.int .i64 h,.int .i64 24] w' fun e w2=>e = .returned (.bool true)∧w'=w2 from by have h:=jw h 24 w'; rw [t3] at h; exact h);have I3:=Hi (fun w'=>show Calls Tryz.prog 251 #[.int .i64 mi,.int .i64 60] w' fun e w2=>e = .returned (.bool true)∧w'=w2 from by have h:=jw mi 60 w'; rw [t4] at h; exact h);have I4:=Hi (fun w'=>show Calls Tryz.prog 251 #[.int .i64 s,.int .i64 60] w' fun e w2=>e = .returned (.bool true)∧w'=w2 from by have h:=jw s 60 w'; rw [t5] at h; exact h);have T3:=Hi t3;have T4:=Hi t4;have T5:=Hi t5;clear t3 t4 t5;have hs0:0≤s:=(by have:=T5.out; simp at this; omega);refine wp_region_held_drew (S:=fun w'=>w'.cell? ⟨b,0,none⟩=some (.int .i64 y)∧w'.cell? ⟨b,1,none⟩=some (.int .i64 m)∧w'.cell? ⟨b,2,none⟩=some (.int .i64 d)∧w'.cell? ⟨b,3,none⟩=some (.int .i64 h)∧w'.cell? ⟨b,4,none⟩=some (.int .i64 mi)∧w'.cell? ⟨b,5,none⟩=some (.int .i64 s)) (by kernel_rfl) ⟨c0,c1,c2,c3,c4,c5⟩ (fun hHeld=>hdN ?_);refine hdT 0 (some 4) ?_; refine hdT 1 (some 5) ?_; refine hdT 2 (some 6) ?_; refine hdT 3 (some 7) ?_; refine hdT 4 (some 8) ?_;refine hdT 5 (some 9) ?_; refine hdT 6 (some 10) ?_; refine hdT 7 (some 11) ?_; refine hdT 8 (some 12) ?_; refine hdT 9 (some 13) ?_;refine hdO 10 (fun K hK=>?_);go_simp
           go_at_call 252
           refine (HD.out _).mono ?_;rintro e w2 ⟨rfl,hU2⟩;have hB2:Blk w2 b _ _:=(hU2.block b hB.lt (by simp)).trans hB;have hS:w2.cell? ⟨b,0,none⟩=some (.int .i64 y)∧w2.cell? ⟨b,1,none⟩=some (.int .i64 m)∧w2.cell? ⟨b,2,none⟩=some (.int .i64 d)∧w2.cell? ⟨b,3,none⟩=some (.int .i64 h)∧w2.cell? ⟨b,4,none⟩=some (.int .i64 mi)∧w2.cell? ⟨b,5,none⟩=some (.int .i64 s):=⟨hB2.cell 0 rfl,hB2.cell 1 rfl,hB2.cell 2 rfl,hB2.cell 3 rfl,hB2.cell 4 rfl,hB2.cell 5 rfl⟩;go_wp2;refine hK.out _ _ hS (fun hHeld=>hdN ?_);clear hK K;refine hdT 11 (some 15) ?_; refine hdT 12 (some 16) ?_; refine hdT 13 (some 17) ?_; refine hdT 14 (some 18) ?_; refine hdT 15 (some 19) ?_;refine hdT 16 (some 20) ?_;refine hdO 17 (fun K hK=>?_);go_simp
           go_at_call 251
           refine (I2.out _).mono ?_;rintro e w3 ⟨rfl,rfl⟩;go_wp2;refine hK.out _ _ hS (fun hHeld=>hdN ?_);clear hK K;refine hdT 18 (some 22) ?_; refine hdT 19 (some 23) ?_; refine hdT 20 (some 24) ?_; refine hdT 21 (some 25) ?_; refine hdT 22 (some 26) ?_;refine hdO 23 (fun K hK=>?_);go_simp
           go_at_call 251
           refine (I3.out _).mono ?_;rintro e w3 ⟨rfl,rfl⟩;go_wp2;refine hK.out _ _ hS (fun hHeld=>hdN ?_);clear hK K;refine hdT 24 (some 28) ?_; refine hdT 25 (some 29) ?_; refine hdT 26 (some 30) ?_; refine hdT 27 (some 31) ?_; refine hdT 28 (some 32) ?_;refine hdO 29 (fun K hK=>?_);go_simp
           go_at_call 251
           refine (I4.out _).mono ?_;rintro e w3 ⟨rfl,rfl⟩;go_wp2;refine hK.out _ _ hS (fun hHeld=>hdN ?_);clear hK K;refine hdT 30 (some 34) ?_; refine hdT 31 (some 35) ?_; refine hdT 32 (some 36) ?_; refine hdT 33 (some 37) ?_; refine hdT 34 (some 38) ?_;refine hdT 35 (some 39) ?_; refine hdT 36 (some 40) ?_; refine hdT 37 (some 2) ?_;refine wpAnyH_done (by kernel_rfl) ?_ 0;go_wp2;go_returns;exact ⟨by rw [HRB.out,t1,t2,T3.out,T4.out,T5.out]; show Ending.returned (.bool (s.tmod 2==0))=_; rw [Int.tmod_eq_emod_of_nonneg hs0]; by_cases e:s%2=0<;>simp [e],(hU.drew.then hU2)⟩
         | false =>
           have I2:=Hi (fun w'=>show Calls Tryz.prog 251 #[.int .i64 h,.int .i64 24] w' fun e w2=>e = .returned (.bool true)∧w'=w2 from by have h:=jw h 24 w'; rw [t3] at h; exact h);have I3:=Hi (fun w'=>show Calls Tryz.prog 251 #[.int .i64 mi,.int .i64 60] w' fun e w2=>e = .returned (.bool true)∧w'=w2 from by have h:=jw mi 60 w'; rw [t4] at h; exact h);have I4:=Hi (fun w'=>show Calls Tryz.prog 251 #[.int .i64 s,.int .i64 60] w' fun e w2=>e = .returned (.bool false)∧w'=w2 from by have h:=jw s 60 w'; rw [t5] at h; exact h);have T3:=Hi t3;have T4:=Hi t4;have T5:=Hi t5;clear t3 t4 t5;refine wp_region_held_drew (S:=fun w'=>w'.cell? ⟨b,0,none⟩=some (.int .i64 y)∧w'.cell? ⟨b,1,none⟩=some (.int .i64 m)∧w'.cell? ⟨b,2,none⟩=some (.int .i64 d)∧w'.cell? ⟨b,3,none⟩=some (.int .i64 h)∧w'.cell? ⟨b,4,none⟩=some (.int .i64 mi)∧w'.cell? ⟨b,5,none⟩=some (.int .i64 s)) (by kernel_rfl) ⟨c0,c1,c2,c3,c4,c5⟩ (fun hHeld=>hdN ?_);refine hdT 0 (some 4) ?_; refine hdT 1 (some 5) ?_; refine hdT 2 (some 6) ?_; refine hdT 3 (some 7) ?_; refine hdT 4 (some 8) ?_;refine hdT 5 (some 9) ?_; refine hdT 6 (some 10) ?_; refine hdT 7 (some 11) ?_; refine hdT 8 (some 12) ?_; refine hdT 9 (some 13) ?_;refine hdO 10 (fun K hK=>?_);go_simp
           go_at_call 252
           refine (HD.out _).mono ?_;rintro e w2 ⟨rfl,hU2⟩;have hB2:Blk w2 b _ _:=(hU2.block b hB.lt (by simp)).trans hB;have hS:w2.cell? ⟨b,0,none⟩=some (.int .i64 y)∧w2.cell? ⟨b,1,none⟩=some (.int .i64 m)∧w2.cell? ⟨b,2,none⟩=some (.int .i64 d)∧w2.cell? ⟨b,3,none⟩=some (.int .i64 h)∧w2.cell? ⟨b,4,none⟩=some (.int .i64 mi)∧w2.cell? ⟨b,5,none⟩=some (.int .i64 s):=⟨hB2.cell 0 rfl,hB2.cell 1 rfl,hB2.cell 2 rfl,hB2.cell 3 rfl,hB2.cell 4 rfl,hB2.cell 5 rfl⟩;go_wp2;refine hK.out _ _ hS (fun hHeld=>hdN ?_);clear hK K;refine hdT 11 (some 15) ?_; refine hdT 12 (some 16) ?_; refine hdT 13 (some 17) ?_; refine hdT 14 (some 18) ?_; refine hdT 15 (some 19) ?_;refine hdT 16 (some 20) ?_;refine hdO 17 (fun K hK=>?_);go_simp
           go_at_call 251
           refine (I2.out _).mono ?_;rintro e w3 ⟨rfl,rfl⟩;go_wp2;refine hK.out _ _ hS (fun hHeld=>hdN ?_);clear hK K;refine hdT 18 (some 22) ?_; refine hdT 19 (some 23) ?_; refine hdT 20 (some 24) ?_; refine hdT 21 (some 25) ?_; refine hdT 22 (some 26) ?_;refine hdO 23 (fun K hK=>?_);go_simp
           go_at_call 251
           refine (I3.out _).mono ?_;rintro e w3 ⟨rfl,rfl⟩;go_wp2;refine hK.out _ _ hS (fun hHeld=>hdN ?_);clear hK K;refine hdT 24 (some 28) ?_; refine hdT 25 (some 29) ?_; refine hdT 26 (some 30) ?_; refine hdT 27 (some 31) ?_; refine hdT 28 (some 32) ?_;refine hdO 29 (fun K hK=>?_);go_simp
           go_at_call 251
           refine (I4.out _).mono ?_;rintro e w3 ⟨rfl,rfl⟩;go_wp2;refine hK.out _ _ hS (fun hHeld=>hdN ?_);clear hK K;refine hdT 30 (some 34) ?_; refine hdT 31 (some 35) ?_; refine hdK 32 (some 36) ?_; refine hdK 33 (some 37) ?_; refine hdK 34 (some 38) ?_;refine hdK 35 (some 39) ?_; refine hdT 36 (some 40) ?_; refine hdT 37 (some 2) ?_;refine wpAnyH_done (by kernel_rfl) ?_ 0;go_wp2;go_returns;exact ⟨by rw [HRB.out,t1,t2,T3.out,T4.out,T5.out]; rfl,(hU.drew.then hU2)⟩
       | false =>
         have I2:=Hi (fun w'=>show Calls Tryz.prog 251 #[.int .i64 h,.int .i64 24] w' fun e w2=>e = .returned (.bool true)∧w'=w2 from by have h:=jw h 24 w'; rw [t3] at h; exact h);have I3:=Hi (fun w'=>show Calls Tryz.prog 251 #[.int .i64 mi,.int .i64 60] w' fun e w2=>e = .returned (.bool false)∧w'=w2 from by have h:=jw mi 60 w'; rw [t4] at h; exact h);have T3:=Hi t3;have T4:=Hi t4;clear t3 t4;refine wp_region_held_drew (S:=fun w'=>w'.cell? ⟨b,0,none⟩=some (.int .i64 y)∧w'.cell? ⟨b,1,none⟩=some (.int .i64 m)∧w'.cell? ⟨b,2,none⟩=some (.int .i64 d)∧w'.cell? ⟨b,3,none⟩=some (.int .i64 h)∧w'.cell? ⟨b,4,none⟩=some (.int .i64 mi)∧w'.cell? ⟨b,5,none⟩=some (.int .i64 s)) (by kernel_rfl) ⟨c0,c1,c2,c3,c4,c5⟩ (fun hHeld=>hdN ?_);refine hdT 0 (some 4) ?_; refine hdT 1 (some 5) ?_; refine hdT 2 (some 6) ?_; refine hdT 3 (some 7) ?_; refine hdT 4 (some 8) ?_;refine hdT 5 (some 9) ?_; refine hdT 6 (some 10) ?_; refine hdT 7 (some 11) ?_; refine hdT 8 (some 12) ?_; refine hdT 9 (some 13) ?_;refine hdO 10 (fun K hK=>?_);go_simp
         go_at_call 252
         refine (HD.out _).mono ?_;rintro e w2 ⟨rfl,hU2⟩;have hB2:Blk w2 b _ _:=(hU2.block b hB.lt (by simp)).trans hB;have hS:w2.cell? ⟨b,0,none⟩=some (.int .i64 y)∧w2.cell? ⟨b,1,none⟩=some (.int .i64 m)∧w2.cell? ⟨b,2,none⟩=some (.int .i64 d)∧w2.cell? ⟨b,3,none⟩=some (.int .i64 h)∧w2.cell? ⟨b,4,none⟩=some (.int .i64 mi)∧w2.cell? ⟨b,5,none⟩=some (.int .i64 s):=⟨hB2.cell 0 rfl,hB2.cell 1 rfl,hB2.cell 2 rfl,hB2.cell 3 rfl,hB2.cell 4 rfl,hB2.cell 5 rfl⟩;go_wp2;refine hK.out _ _ hS (fun hHeld=>hdN ?_);clear hK K;refine hdT 11 (some 15) ?_; refine hdT 12 (some 16) ?_; refine hdT 13 (some 17) ?_; refine hdT 14 (some 18) ?_; refine hdT 15 (some 19) ?_;refine hdT 16 (some 20) ?_;refine hdO 17 (fun K hK=>?_);go_simp
         go_at_call 251
         refine (I2.out _).mono ?_;rintro e w3 ⟨rfl,rfl⟩;go_wp2;refine hK.out _ _ hS (fun hHeld=>hdN ?_);clear hK K;refine hdT 18 (some 22) ?_; refine hdT 19 (some 23) ?_; refine hdT 20 (some 24) ?_; refine hdT 21 (some 25) ?_; refine hdT 22 (some 26) ?_;refine hdO 23 (fun K hK=>?_);go_simp
         go_at_call 251
         refine (I3.out _).mono ?_;rintro e w3 ⟨rfl,rfl⟩;go_wp2;refine hK.out _ _ hS (fun hHeld=>hdN ?_);clear hK K;refine hdT 24 (some 28) ?_; refine hdT 25 (some 29) ?_; refine hdK 26 (some 30) ?_; refine hdK 27 (some 31) ?_; refine hdK 28 (some 32) ?_;refine hdK 29 (some 33) ?_; refine hdT 30 (some 34) ?_; refine hdT 31 (some 35) ?_; refine hdK 32 (some 36) ?_; refine hdK 33 (some 37) ?_;refine hdK 34 (some 38) ?_; refine hdK 35 (some 39) ?_; refine hdT 36 (some 40) ?_; refine hdT 37 (some 2) ?_;refine wpAnyH_done (by kernel_rfl) ?_ 0;go_wp2;go_returns;exact ⟨by rw [HRB.out,t1,t2,T3.out,T4.out]; rfl,(hU.drew.then hU2)⟩
     | false =>
       have I2:=Hi (fun w'=>show Calls Tryz.prog 251 #[.int .i64 h,.int .i64 24] w' fun e w2=>e = .returned (.bool false)∧w'=w2 from by have h:=jw h 24 w'; rw [t3] at h; exact h);have T3:=Hi t3;clear t3;refine wp_region_held_drew (S:=fun w'=>w'.cell? ⟨b,0,none⟩=some (.int .i64 y)∧w'.cell? ⟨b,1,none⟩=some (.int .i64 m)∧w'.cell? ⟨b,2,none⟩=some (.int .i64 d)∧w'.cell? ⟨b,3,none⟩=some (.int .i64 h)∧w'.cell? ⟨b,4,none⟩=some (.int .i64 mi)∧w'.cell? ⟨b,5,none⟩=some (.int .i64 s)) (by kernel_rfl) ⟨c0,c1,c2,c3,c4,c5⟩ (fun hHeld=>hdN ?_);refine hdT 0 (some 4) ?_; refine hdT 1 (some 5) ?_; refine hdT 2 (some 6) ?_; refine hdT 3 (some 7) ?_; refine hdT 4 (some 8) ?_;refine hdT 5 (some 9) ?_; refine hdT 6 (some 10) ?_; refine hdT 7 (some 11) ?_; refine hdT 8 (some 12) ?_; refine hdT 9 (some 13) ?_;refine hdO 10 (fun K hK=>?_);go_simp
       go_at_call 252
       refine (HD.out _).mono ?_;rintro e w2 ⟨rfl,hU2⟩;have hB2:Blk w2 b _ _:=(hU2.block b hB.lt (by simp)).trans hB;have hS:w2.cell? ⟨b,0,none⟩=some (.int .i64 y)∧w2.cell? ⟨b,1,none⟩=some (.int .i64 m)∧w2.cell? ⟨b,2,none⟩=some (.int .i64 d)∧w2.cell? ⟨b,3,none⟩=some (.int .i64 h)∧w2.cell? ⟨b,4,none⟩=some (.int .i64 mi)∧w2.cell? ⟨b,5,none⟩=some (.int .i64 s):=⟨hB2.cell 0 rfl,hB2.cell 1 rfl,hB2.cell 2 rfl,hB2.cell 3 rfl,hB2.cell 4 rfl,hB2.cell 5 rfl⟩;go_wp2;refine hK.out _ _ hS (fun hHeld=>hdN ?_);clear hK K;refine hdT 11 (some 15) ?_; refine hdT 12 (some 16) ?_; refine hdT 13 (some 17) ?_; refine hdT 14 (some 18) ?_; refine hdT 15 (some 19) ?_;refine hdT 16 (some 20) ?_;refine hdO 17 (fun K hK=>?_);go_simp
       go_at_call 251
       refine (I2.out _).mono ?_;rintro e w3 ⟨rfl,rfl⟩;go_wp2;refine hK.out _ _ hS (fun hHeld=>hdN ?_);clear hK K;refine hdT 18 (some 22) ?_; refine hdT 19 (some 23) ?_; refine hdK 20 (some 24) ?_; refine hdK 21 (some 25) ?_; refine hdK 22 (some 26) ?_;refine hdK 23 (some 27) ?_; refine hdT 24 (some 28) ?_; refine hdT 25 (some 29) ?_; refine hdK 26 (some 30) ?_; refine hdK 27 (some 31) ?_;refine hdK 28 (some 32) ?_; refine hdK 29 (some 33) ?_; refine hdT 30 (some 34) ?_; refine hdT 31 (some 35) ?_; refine hdK 32 (some 36) ?_;refine hdK 33 (some 37) ?_; refine hdK 34 (some 38) ?_; refine hdK 35 (some 39) ?_; refine hdT 36 (some 40) ?_; refine hdT 37 (some 2) ?_;refine wpAnyH_done (by kernel_rfl) ?_ 0;go_wp2;go_returns;exact ⟨by rw [HRB.out,t1,t2,T3.out]; rfl,(hU.drew.then hU2)⟩
   | false =>
     refine wp_region_held_drew (S:=fun w'=>w'.cell? ⟨b,0,none⟩=some (.int .i64 y)∧w'.cell? ⟨b,1,none⟩=some (.int .i64 m)∧w'.cell? ⟨b,2,none⟩=some (.int .i64 d)∧w'.cell? ⟨b,3,none⟩=some (.int .i64 h)∧w'.cell? ⟨b,4,none⟩=some (.int .i64 mi)∧w'.cell? ⟨b,5,none⟩=some (.int .i64 s)) (by kernel_rfl) ⟨c0,c1,c2,c3,c4,c5⟩ (fun hHeld=>hdN ?_);refine hdT 0 (some 4) ?_; refine hdT 1 (some 5) ?_; refine hdT 2 (some 6) ?_; refine hdT 3 (some 7) ?_; refine hdT 4 (some 8) ?_;refine hdT 5 (some 9) ?_; refine hdT 6 (some 10) ?_; refine hdT 7 (some 11) ?_; refine hdT 8 (some 12) ?_; refine hdT 9 (some 13) ?_;refine hdO 10 (fun K hK=>?_);go_simp
     go_at_call 252
     refine (HD.out _).mono ?_;rintro e w2 ⟨rfl,hU2⟩;have hB2:Blk w2 b _ _:=(hU2.block b hB.lt (by simp)).trans hB;have hS:w2.cell? ⟨b,0,none⟩=some (.int .i64 y)∧w2.cell? ⟨b,1,none⟩=some (.int .i64 m)∧w2.cell? ⟨b,2,none⟩=some (.int .i64 d)∧w2.cell? ⟨b,3,none⟩=some (.int .i64 h)∧w2.cell? ⟨b,4,none⟩=some (.int .i64 mi)∧w2.cell? ⟨b,5,none⟩=some (.int .i64 s):=⟨hB2.cell 0 rfl,hB2.cell 1 rfl,hB2.cell 2 rfl,hB2.cell 3 rfl,hB2.cell 4 rfl,hB2.cell 5 rfl⟩;go_wp2;refine hK.out _ _ hS (fun hHeld=>hdN ?_);clear hK K;refine hdT 11 (some 15) ?_; refine hdT 12 (some 16) ?_; refine hdT 13 (some 17) ?_; refine hdK 14 (some 18) ?_; refine hdK 15 (some 19) ?_;refine hdK 16 (some 20) ?_; refine hdK 17 (some 21) ?_; refine hdT 18 (some 22) ?_; refine hdT 19 (some 23) ?_; refine hdK 20 (some 24) ?_;refine hdK 21 (some 25) ?_; refine hdK 22 (some 26) ?_; refine hdK 23 (some 27) ?_; refine hdT 24 (some 28) ?_; refine hdT 25 (some 29) ?_;refine hdK 26 (some 30) ?_; refine hdK 27 (some 31) ?_; refine hdK 28 (some 32) ?_; refine hdK 29 (some 33) ?_; refine hdT 30 (some 34) ?_;refine hdT 31 (some 35) ?_; refine hdK 32 (some 36) ?_; refine hdK 33 (some 37) ?_; refine hdK 34 (some 38) ?_; refine hdK 35 (some 39) ?_;refine hdT 36 (some 40) ?_; refine hdT 37 (some 2) ?_;refine wpAnyH_done (by kernel_rfl) ?_ 0;go_wp2;go_returns;exact ⟨by rw [HRB.out,t1,t2]; rfl,(hU.drew.then hU2)⟩
 | false =>
   refine wp_region_held_drew (S:=fun w'=>w'.cell? ⟨b,0,none⟩=some (.int .i64 y)∧w'.cell? ⟨b,1,none⟩=some (.int .i64 m)∧w'.cell? ⟨b,2,none⟩=some (.int .i64 d)∧w'.cell? ⟨b,3,none⟩=some (.int .i64 h)∧w'.cell? ⟨b,4,none⟩=some (.int .i64 mi)∧w'.cell? ⟨b,5,none⟩=some (.int .i64 s)) (by kernel_rfl) ⟨c0,c1,c2,c3,c4,c5⟩ (fun hHeld=>hdN ?_);refine hdT 0 (some 4) ?_; refine hdT 1 (some 5) ?_; refine hdT 2 (some 6) ?_; refine hdT 3 (some 7) ?_; refine hdK 4 (some 8) ?_;refine hdK 5 (some 9) ?_; refine hdK 6 (some 10) ?_; refine hdK 7 (some 11) ?_; refine hdK 8 (some 12) ?_; refine hdK 9 (some 13) ?_;refine hdK 10 (some 14) ?_; refine hdK 11 (some 15) ?_; refine hdT 12 (some 16) ?_; refine hdT 13 (some 17) ?_; refine hdK 14 (some 18) ?_;refine hdK 15 (some 19) ?_; refine hdK 16 (some 20) ?_; refine hdK 17 (some 21) ?_; refine hdT 18 (some 22) ?_; refine hdT 19 (some 23) ?_;refine hdK 20 (some 24) ?_; refine hdK 21 (some 25) ?_; refine hdK 22 (some 26) ?_; refine hdK 23 (some 27) ?_; refine hdT 24 (some 28) ?_;refine hdT 25 (some 29) ?_; refine hdK 26 (some 30) ?_; refine hdK 27 (some 31) ?_; refine hdK 28 (some 32) ?_; refine hdK 29 (some 33) ?_;refine hdT 30 (some 34) ?_; refine hdT 31 (some 35) ?_; refine hdK 32 (some 36) ?_; refine hdK 33 (some 37) ?_; refine hdK 34 (some 38) ?_;refine hdK 35 (some 39) ?_; refine hdT 36 (some 40) ?_; refine hdT 37 (some 2) ?_;refine wpAnyH_done (by kernel_rfl) ?_ 0;go_wp2;go_returns;exact ⟨by rw [HRB.out,t1]; rfl,hU.drew⟩
structure PartsOk (y m d h mi s:Int):Prop where
 y0:1980≤y
 y1:y≤2107
 m0:0≤m
 m1:m≤15
 d0:0≤d
 d1:d≤31
 h0:0≤h
 h1:h≤31
 i0:0≤mi
 i1:mi≤63
 s0:0≤s
 s1:s≤62
def ko (y m d h mi s:Int):Bool:=decide (1≤d)&&decide (d≤qG y m)&&decide (h<24)&&decide (mi<60)&&decide (s<60)&&decide (s%2=0)
theorem zdh (y m d h mi s:Int) (w:World) (hp:PartsOk y m d h mi s) :
 Calls Tryz.prog 218 #[.agg #[.int .i64 y,.int .i64 m,.int .i64 d,.int .i64 h,.int .i64 mi,.int .i64 s]] w fun e w'=>e = .returned (.bool (ko y m d h mi s))∧Upd [] w w':=by
 have e:Yk y m d h mi s=ko y m d h mi s:=by
  have h1:vC y m=qG y m:=if_neg (by have:=hp.y0; have:=hp.y1; omega);unfold Yk ko;rw [h1,decide_eq_true hp.h0,decide_eq_true hp.i0,decide_eq_true hp.s0,Bool.true_and,Bool.true_and,Bool.true_and]
 rw [← e];exact zcx y m d h mi s w
def Xq (t:Nat):Bool:=ko (1980+(t:Int)/33554432%128) ((t:Int)/2097152%16) ((t:Int)/65536%32) ((t:Int)/2048%32) ((t:Int)/32%64) (2*((t:Int)%32))
theorem zan (t:Nat):PartsOk (1980+(t:Int)/33554432%128) ((t:Int)/2097152%16) ((t:Int)/65536%32) ((t:Int)/2048%32) ((t:Int)/32%64) (2*((t:Int)%32)):=by
 constructor<;>omega
theorem Ql (t:Nat) (w:World) (ht:t<4294967296):Calls Tryz.prog 159 #[.int .u32 (t:Nat)] w fun e w'=>e = .returned (.bool (Xq t))∧Upd [] w w':=by
 have HS:=Hi (zdg t w ht);have HR:=Hi (fun w'=>zdh _ _ _ _ _ _ w' (zan t));have HT:=Hi (show Xq t=ko (1980+(t:Int)/33554432%128) ((t:Int)/2097152%16) ((t:Int)/65536%32) ((t:Int)/2048%32) ((t:Int)/32%64) (2*((t:Int)%32)) from rfl);unfold vO at HS;go_enter Tryz.func159,Tryz.ntmps159;go_wp2_with fail
 refine HS.out.mono ?_;rintro e w1 ⟨rfl,hU1⟩;go_wp2_with fail
 refine (HR.out w1).mono ?_;rintro e w2 ⟨rfl,hU2⟩;go_wp2;go_returns;exact ⟨by rw [HT.out]; rfl,hU1.then hU2⟩
theorem zct (t:Nat) (w:World) (ht:t<4294967296):Calls Tryz.prog 99 #[.int .u32 (t:Nat)] w fun e w'=>e = .returned (.agg (vO t).toArray)∧Upd [] w w':=by
 have e1:(t:Int)/33554432%128=(t:Int)/32/64/32/32/16:=by omega
 have e2:(t:Int)/2097152%16=(t:Int)/32/64/32/32%16:=by omega
 have e3:(t:Int)/65536%32=(t:Int)/32/64/32%32:=by omega
 have e4:(t:Int)/2048%32=(t:Int)/32/64%32:=by omega
 have HP:=Hi (show vO t=[.int .i64 (1980+(t:Int)/32/64/32/32/16),.int .i64 ((t:Int)/32/64/32/32%16),.int .i64 ((t:Int)/32/64/32%32),.int .i64 ((t:Int)/32/64%32),.int .i64 ((t:Int)/32%64),.int .i64 (2*((t:Int)%32))] from by unfold vO; rw [e1,e2,e3,e4]);clear e1 e2 e3 e4;go_enter Tryz.func99,Tryz.ntmps99;go_wp2;have hB:=(Blk.new w [.int .i64 (1980+(t:Int)/32/64/32/32/16),.int .i64 ((t:Int)/32/64/32/32%16),.int .i64 ((t:Int)/32/64/32%32),.int .i64 ((t:Int)/32/64%32),.int .i64 ((t:Int)/32%64),.int .i64 (2*((t:Int)%32))] 163).alloc (Obj.cells #[.int .i64 (1980+(t:Int)/32/64/32/32/16),.int .i64 ((t:Int)/32/64/32/32%16),.int .i64 ((t:Int)/32/64/32%32),.int .i64 ((t:Int)/32/64%32),.int .i64 ((t:Int)/32%64),.int .i64 (2*((t:Int)%32))] 163);rw [HP.out];refine bodyPost_ret (results_cell_row rfl _ _ w.heap.size 163 _ (0,0) _ (by simp) hB Tryz.underlying163 rfl (by rw [zjx]; rfl)) (by simp) ⟨rfl,?_⟩;exact ((Upd.refl [] w).alloc _).alloc _
theorem zcb {y m d h mi s:Int}:ko y m d h mi s=(decide (1≤d)&&decide (d≤qG y m)&&decide (h≤23)&&decide (mi≤59)&&(decide (s≤58)&&decide (s%2=0))):=by
 unfold ko;have e1:decide (h<24)=decide (h≤23):=decide_eq_decide.2 (by omega);have e2:decide (mi<60)=decide (mi≤59):=decide_eq_decide.2 (by omega);have e3:(decide (s<60)&&decide (s%2=0))=(decide (s≤58)&&decide (s%2=0)):=by
  rw [← Bool.decide_and,← Bool.decide_and]; exact decide_eq_decide.2 (by omega)
 rw [e1,e2,Bool.and_assoc,e3]
theorem zce (y m d h mi s:Int) (w:World) (hp:PartsOk y m d h mi s) :
 Calls Tryz.prog 98 #[.agg #[.int .i64 y,.int .i64 m,.int .i64 d,.int .i64 h,.int .i64 mi,.int .i64 s]] w fun e w'=>e = .returned (.bool (ko y m d h mi s))∧Upd [] w w':=by
 obtain ⟨y0,y1,m0,m1,d0,d1,h0,h1,i0,i1,s0,s1⟩:=hp;have HD:=Hi (fun w'=>zey y m w' y0 y1 m0 m1);have HRB:=Hi (zcb (y:=y) (m:=m) (d:=d) (h:=h) (mi:=mi) (s:=s));have u1:decide (0≤h)=true:=decide_eq_true h0;have u2:decide (0≤mi)=true:=decide_eq_true i0;have u3:decide (0≤s)=true:=decide_eq_true s0;generalize ko y m d h mi s=B at *;generalize qG y m=D at *;go_enter Tryz.func98,Tryz.ntmps98;go_upto_region 1 with fail
 have hB:=Blk.new w [.int .i64 y,.int .i64 m,.int .i64 d,.int .i64 h,.int .i64 mi,.int .i64 s] 163;have hU:Upd [] w (w.alloc (.cells #[.int .i64 y,.int .i64 m,.int .i64 d,.int .i64 h,.int .i64 mi,.int .i64 s] 163)):=(Upd.refl [] w).alloc _;change Code.wp _ _ _ _ (w.alloc (.cells #[.int .i64 y,.int .i64 m,.int .i64 d,.int .i64 h,.int .i64 mi,.int .i64 s] 163));generalize w.alloc (.cells #[.int .i64 y,.int .i64 m,.int .i64 d,.int .i64 h,.int .i64 mi,.int .i64 s] 163)=w1 at *;generalize hb:w.heap.size=b at *;have HW:=Hi hb;clear hb;have cA:=hB.all;by_cases k1:1≤d
 · by_cases k2:d≤D
   · by_cases k3:h≤23
     · by_cases k4:mi≤59
       · by_cases k5:s≤58
         · have t1:decide (1≤d)=true:=decide_eq_true k1;have t2:decide (d≤D)=true:=decide_eq_true k2;have t3:decide (h≤23)=true:=decide_eq_true k3;have t4:decide (mi≤59)=true:=decide_eq_true k4;have t5:decide (s≤58)=true:=decide_eq_true k5
           go_quiet ((go_at_call 169; exact Calls.quiet_of_same ((HD.out _).mono fun _ _ ⟨h1,h2⟩=>⟨h1,h2.symm⟩)))
           go_wp2;go_returns;exact ⟨by rw [HRB.out,t1,t2,t3,t4,t5]; show Ending.returned (.bool (s%2==0))=_; by_cases e:s%2=0<;>simp [e],hU.drewN _⟩
         · have t1:decide (1≤d)=true:=decide_eq_true k1;have t2:decide (d≤D)=true:=decide_eq_true k2;have t3:decide (h≤23)=true:=decide_eq_true k3;have t4:decide (mi≤59)=true:=decide_eq_true k4;have t5:decide (s≤58)=false:=decide_eq_false k5
           go_quiet ((go_at_call 169; exact Calls.quiet_of_same ((HD.out _).mono fun _ _ ⟨h1,h2⟩=>⟨h1,h2.symm⟩)))
           go_wp2;go_returns;exact ⟨by rw [HRB.out,t1,t2,t3,t4]; show Ending.returned (.bool false)=_; rw [show (decide (s≤58)&&decide (s%2=0))=false from by rw [t5]; rfl]; rfl,hU.drewN _⟩
       · have t1:decide (1≤d)=true:=decide_eq_true k1;have t2:decide (d≤D)=true:=decide_eq_true k2;have t3:decide (h≤23)=true:=decide_eq_true k3;have t4:decide (mi≤59)=false:=decide_eq_false k4
         go_quiet ((go_at_call 169; exact Calls.quiet_of_same ((HD.out _).mono fun _ _ ⟨h1,h2⟩=>⟨h1,h2.symm⟩)))
         go_wp2;go_returns;exact ⟨by rw [HRB.out,t1,t2,t3,t4]; rfl,hU.drewN _⟩
     · have t1:decide (1≤d)=true:=decide_eq_true k1;have t2:decide (d≤D)=true:=decide_eq_true k2;have t3:decide (h≤23)=false:=decide_eq_false k3
       go_quiet ((go_at_call 169; exact Calls.quiet_of_same ((HD.out _).mono fun _ _ ⟨h1,h2⟩=>⟨h1,h2.symm⟩)))
       go_wp2;go_returns;exact ⟨by rw [HRB.out,t1,t2,t3]; rfl,hU.drewN _⟩
   · have t1:decide (1≤d)=true:=decide_eq_true k1;have t2:decide (d≤D)=false:=decide_eq_false k2
     go_quiet ((go_at_call 169; exact Calls.quiet_of_same ((HD.out _).mono fun _ _ ⟨h1,h2⟩=>⟨h1,h2.symm⟩)))
     go_wp2;go_returns;exact ⟨by rw [HRB.out,t1,t2]; rfl,hU.drewN _⟩
 · have t1:decide (1≤d)=false:=decide_eq_false k1
   go_quiet ((go_at_call 169; exact Calls.quiet_of_same ((HD.out _).mono fun _ _ ⟨h1,h2⟩=>⟨h1,h2.symm⟩)))
   go_wp2;go_returns;exact ⟨by rw [HRB.out,t1]; rfl,hU.drewN _⟩
structure RecD where
 p:ByteArray
 m:Int
 sum:Nat
 l:Int
 wh:Int
 k:Int
 md:Int
 t:Nat
 pos:Int
def RecD.cells (r:RecD):List Value:=[.string r.p,.int .i64 r.m,.int .u32 (r.sum:Nat),.int .i64 r.l,.int .i64 r.wh,.int .i64 r.k,.int .i64 r.md,.int .u32 (r.t:Nat),.int .i64 r.pos]
def RecD.v (r:RecD):Value := .agg #[.string r.p,.int .i64 r.m,.int .u32 (r.sum:Nat),.int .i64 r.l,.int .i64 r.wh,.int .i64 r.k,.int .i64 r.md,.int .u32 (r.t:Nat),.int .i64 r.pos]
structure RecD.Fits (r:RecD):Prop where
 p:r.p.size≤1000
 sum:r.sum<4294967296
 t:r.t<4294967296
def zw (k:Int) (p:ByteArray):List Nat:=if k=2 then zf p++[47] else zf p
theorem xY (k:Int) (p:ByteArray) : ∀ x∈zw k p,x<256:=by
 unfold zw;split
 · intro x hx; rcases List.mem_append.1 hx with h | h
   · exact xf p x h
   · simp at h; omega
 · exact xf p
theorem xn (k:Int) (p:ByteArray):(zw k p).length≤p.size+1:=by
 unfold zw;split
 · simp [zi]
 · rw [zi]; omega
def yZ (n:Int):Bool:=decide (0≤n)&&decide (n<2147483648)
def qb (r:RecD):Bool :=
 if (r.m≠0∧r.m≠8)∨yZ r.l=false∨yZ r.wh=false∨yZ r.pos=false then false
 else if r.k=2 then decide (r.sum=0)&&decide (r.l=0)&&decide (r.wh=0)&&decide (r.m=0) else decide (r.m=8)||decide (r.l=r.wh)
def xN (k:Int) (t:Nat):Bool:=if k=2 then decide (t=2162688) else Xq t
def vF (r:RecD):Bool:=(zV (zw r.k r.p)).2.2&&decide ((zV (zw r.k r.p)).1=zf r.p)&&decide (((zV (zw r.k r.p)).2.1:Int)=r.k)
def yf (r:RecD):Nat:=if vF r=false then 5 else if qb r=false then 2 else if r.md<0∨511<r.md then 12 else if xN r.k r.t=false then 13 else 0
def leP:Nat→Nat→List Nat
 | _,0=>[]
 | n,k+1=>n%256::leP (n/256) k
def leG:List Nat→Nat
 | []=>0
 | x::t=>x+256*leG t
theorem zy : ∀ (k n:Nat),(leP n k).length=k
 | 0,_=>rfl
 | k+1,n=>by rw [leP,List.length_cons,zy k]
theorem Ya : ∀ (k n:Nat),∀ x∈leP n k,x<256
 | 0,_=>by intro x hx; simp [leP] at hx
 | k+1,n=>by
   intro x hx;rw [leP] at hx;rcases List.mem_cons.1 hx with h | h
   · omega
   · exact Ya k _ x h
theorem Yb : ∀ (k n:Nat),leP n (k+1)=leP n k++[n/256^k%256]
 | 0,n=>by simp [leP]
 | k+1,n=>by
   rw [leP,Yb k (n/256),leP,List.cons_append,Nat.div_div_eq_div_mul,Nat.pow_succ,Nat.mul_comm 256]
theorem zdD : ∀ (a b n:Nat),leP n (a+b)=leP n a++leP (n/256^a) b
 | 0,b,n=>by simp [leP]
 | a+1,b,n=>by
   rw [show a+1+b=a+b+1 by omega,leP,zdD a b,leP,List.cons_append,Nat.div_div_eq_div_mul,Nat.pow_succ,Nat.mul_comm 256]
theorem zdF : ∀ (k n:Nat),leP (n%256^k) k=leP n k
 | 0,_=>rfl
 | k+1,n=>by
   rw [leP,leP,Nat.pow_succ,Nat.mul_comm,Nat.mod_mul_right_mod,Nat.mod_mul_right_div_self,zdF k]
theorem XW : ∀ (a b:List Nat),leG (a++b)=leG a+256^a.length*leG b
 | [],b=>by simp [leG]
 | x::t,b=>by
   rw [List.cons_append,leG,XW t b,leG,List.length_cons,Nat.pow_succ,Nat.mul_comm (256^t.length) 256,Nat.mul_add,Nat.mul_assoc]; omega
theorem zhZ (a:List Nat) (x:Nat):leG (a++[x])=leG a+256^a.length*x:=by rw [XW]; simp [leG]
theorem zcl : ∀ (l:List Nat),(∀ x∈l,x<256)→leG l<256^l.length
 | [],_=>by simp [leG]
 | x::t,h=>by
   have h1:=h x (by simp);have h2:=zcl t fun y hy=>h y (by simp [hy]);rw [leG,List.length_cons,Nat.pow_succ]; omega
theorem KE : ∀ (l:List Nat),(∀ x∈l,x<256)→leP (leG l) l.length=l
 | [],_=>rfl
 | x::t,h=>by
   have h1:=h x (by simp);have h2:=KE t fun y hy=>h y (by simp [hy]);rw [leG,List.length_cons,leP,show (x+256*leG t)%256=x by omega,show (x+256*leG t)/256=leG t by omega,h2]
structure RS where
 s:ByteArray
 p:Nat
 bad:Bool
def RS.cells (r:RS):List Value:=[.string r.s,.int .i64 (r.p:Nat),.bool r.bad]
def RS.l (r:RS):List Nat:=zf r.s
def RS.text (r:RS) (n:Nat):List Nat×RS :=
 if r.bad=true then ([],r) else if r.s.size-r.p<n then ([],⟨r.s,r.p,true⟩) else ((r.l.drop r.p).take n,⟨r.s,r.p+n,false⟩)
def RS.num (r:RS) (k:Nat):Nat×RS:=(leG (r.text k).1,(r.text k).2)
def RS.Ok (r:RS):Prop:=r.p≤r.s.size
theorem RS.text_ok {r:RS} (h:r.Ok) (n:Nat):(r.text n).2.Ok:=by
 unfold RS.text RS.Ok at *
 repeat' split
 all_goals (dsimp only; omega)
theorem RS.text_s (r:RS) (n:Nat):(r.text n).2.s=r.s:=by
 unfold RS.text
 repeat' split
 all_goals rfl
theorem RS.num_ok {r:RS} (h:r.Ok) (n:Nat):(r.num n).2.Ok:=RS.text_ok h n
theorem RS.num_s (r:RS) (n:Nat):(r.num n).2.s=r.s:=RS.text_s r n
theorem RS.text_lt (r:RS) (n:Nat) : ∀ x∈(r.text n).1,x<256:=by
 unfold RS.text
 repeat' split
 all_goals first
  | (intro x hx; simp at hx; done)
  | exact fun x hx=>xf r.s x (List.mem_of_mem_drop (List.mem_of_mem_take hx))
theorem RS.text_len (r:RS) (n:Nat):(r.text n).1.length≤n:=by
 unfold RS.text
 repeat' split
 all_goals (simp; try omega)
theorem RS.num_lt (r:RS) (k:Nat):(r.num k).1<256^k:=by
 refine Nat.lt_of_lt_of_le (zcl _ (r.text_lt k)) (Nat.pow_le_pow_right (by omega) (r.text_len k))
theorem RS.text_bad {r:RS} (h:r.bad=true) (n:Nat):r.text n=([],r):=by unfold RS.text; rw [if_pos h]
theorem RS.text_short {s:ByteArray} {p:Nat} (n:Nat) (h:s.size-p<n):(⟨s,p,false⟩:RS).text n=([],⟨s,p,true⟩):=by
 unfold RS.text; rw [if_neg (by simp),if_pos h]
theorem RS.text_fine {s:ByteArray} {p:Nat} (n:Nat) (h:n≤s.size-p):(⟨s,p,false⟩:RS).text n=(((zf s).drop p).take n,⟨s,p+n,false⟩):=by
 unfold RS.text; rw [if_neg (by simp),if_neg (by dsimp only; omega)]; rfl
theorem RS.text_isbad {r:RS} (h:r.bad=true) (n:Nat):(r.text n).2.bad=true:=by rw [RS.text_bad h]; exact h
theorem RS.text_all (r:RS) (n:Nat) (h:(r.text n).2.bad=false):r.bad=false∧n≤r.s.size-r.p∧r.text n=((r.l.drop r.p).take n,⟨r.s,r.p+n,false⟩):=by
 unfold RS.text at h ⊢;split at h
 · rename_i h1; dsimp only at h; rw [h1] at h; cases h
 · rename_i h1;split at h
   · cases h
   · rename_i h2;exact ⟨by simpa using h1,by omega,by rw [if_neg h1,if_neg h2]⟩
theorem RS.text_not (r:RS) (n:Nat) (h:r.s.size<r.p+n) (hp:r.p≤r.s.size):(r.text n).2.bad=true:=by
 cases hb:(r.text n).2.bad with
 | true=>rfl
 | false=>have:=RS.text_all r n hb; omega
def gN (s:ByteArray) (i k:Nat):Nat:=leG (((zf s).drop i).take k)
theorem zhx (s:ByteArray) (i k:Nat):gN s i k<256^k:=by
 unfold gN;refine Nat.lt_of_lt_of_le (zcl _ fun x hx=>xf s x (List.mem_of_mem_drop (List.mem_of_mem_take hx))) (Nat.pow_le_pow_right (by omega) ?_);rw [List.length_take]; omega
theorem zG {s:ByteArray} {p:Nat} (k:Nat) (h:p+k≤s.size):(⟨s,p,false⟩:RS).num k=(gN s p k,⟨s,p+k,false⟩):=by
 unfold RS.num; rw [RS.text_fine k (by omega)]; rfl
theorem qT (r:RS) (k:Nat) (h:(r.num k).2.bad=false) (hp:r.p≤r.s.size):r.bad=false∧r.p+k≤r.s.size∧r.num k=(gN r.s r.p k,⟨r.s,r.p+k,false⟩):=by
 obtain ⟨a,b,c⟩:=RS.text_all r k h;refine ⟨a,by omega,?_⟩;unfold RS.num; rw [c]; rfl
structure HdD where
 beg:Nat
 flags:Nat
 m:Nat
 t:Nat
 sum:Nat
 l:Nat
 wh:Nat
 name:List Nat
def hdP (r:RS):HdD×RS :=
 let a:=r.num 4
 let b:=a.2.num 2
 let f:=b.2.num 2
 let m:=f.2.num 2
 let t:=m.2.num 4
 let u:=t.2.num 4
 let l:=u.2.num 4
 let wh:=l.2.num 4
 let n:=wh.2.num 2
 let mo:=n.2.num 2
 let nm:=mo.2.text n.1
 let sk:=nm.2.text mo.1
 (⟨a.1,f.1,m.1,t.1,u.1,l.1,wh.1,nm.1⟩,sk.2)
def ja (s:ByteArray):Nat:=30+gN s 26 2+gN s 28 2
theorem WU (s:ByteArray) (h30:30≤s.size) (h:ja s≤s.size) :
 hdP ⟨s,0,false⟩=(⟨gN s 0 4,gN s 6 2,gN s 8 2,gN s 10 4,gN s 14 4,gN s 18 4,gN s 22 4,((zf s).drop 30).take (gN s 26 2)⟩,⟨s,ja s,false⟩):=by
 unfold ja at h ⊢;unfold hdP;simp only [zG 4 (show 0+4≤s.size by omega),zG 2 (show 4+2≤s.size by omega),zG 2 (show 6+2≤s.size by omega),zG 2 (show 8+2≤s.size by omega),zG 4 (show 10+4≤s.size by omega),zG 4 (show 14+4≤s.size by omega),zG 4 (show 18+4≤s.size by omega),zG 4 (show 22+4≤s.size by omega),zG 2 (show 26+2≤s.size by omega),zG 2 (show 28+2≤s.size by omega),Nat.zero_add,Nat.reduceAdd];rw [RS.text_fine _ (by omega)];dsimp only;rw [RS.text_fine _ (by omega)]
theorem zi9 (s:ByteArray) (h:s.size<30∨s.size<ja s):(hdP ⟨s,0,false⟩).2.bad=true:=by
 cases hb:(hdP ⟨s,0,false⟩).2.bad with
 | true=>rfl
 | false =>
   exfalso;unfold ja at h;unfold hdP at hb;dsimp only at hb;have o0:(⟨s,0,false⟩:RS).Ok:=Nat.zero_le _;have o1:=RS.num_ok o0 4;have o2:=RS.num_ok o1 2;have o3:=RS.num_ok o2 2;have o4:=RS.num_ok o3 2;have o5:=RS.num_ok o4 4;have o6:=RS.num_ok o5 4;have o7:=RS.num_ok o6 4;have o8:=RS.num_ok o7 4;have o9:=RS.num_ok o8 2;have o10:=RS.num_ok o9 2;obtain ⟨b1,l1,e1⟩:=RS.text_all _ _ hb;obtain ⟨b2,l2,e2⟩:=RS.text_all _ _ b1;obtain ⟨b3,l3,e3⟩:=qT _ _ b2 o9;obtain ⟨b4,l4,e4⟩:=qT _ _ b3 o8;obtain ⟨b5,l5,e5⟩:=qT _ _ b4 o7;obtain ⟨b6,l6,e6⟩:=qT _ _ b5 o6;obtain ⟨b7,l7,e7⟩:=qT _ _ b6 o5;obtain ⟨b8,l8,e8⟩:=qT _ _ b7 o4;obtain ⟨b9,l9,e9⟩:=qT _ _ b8 o3;obtain ⟨b10,l10,e10⟩:=qT _ _ b9 o2;obtain ⟨b11,l11,e11⟩:=qT _ _ b10 o1;obtain ⟨b12,l12,e12⟩:=qT _ _ b11 o0;clear b1 b2 b3 b4 b5 b6 b7 b8 b9 b10 b11 b12 o0 o1 o2 o3 o4 o5 o6 o7 o8 o9 o10 hb;simp only [e12,Nat.zero_add,Nat.reduceAdd] at e11 l11 e10 l10 e9 l9 e8 l8 e7 l7 e6 l6 e5 l5 e4 l4 e3 l3 e2 l2 e1 l1;simp only [e11,Nat.zero_add,Nat.reduceAdd] at e10 l10 e9 l9 e8 l8 e7 l7 e6 l6 e5 l5 e4 l4 e3 l3 e2 l2 e1 l1;simp only [e10,Nat.zero_add,Nat.reduceAdd] at e9 l9 e8 l8 e7 l7 e6 l6 e5 l5 e4 l4 e3 l3 e2 l2 e1 l1;simp only [e9,Nat.zero_add,Nat.reduceAdd] at e8 l8 e7 l7 e6 l6 e5 l5 e4 l4 e3 l3 e2 l2 e1 l1;simp only [e8,Nat.zero_add,Nat.reduceAdd] at e7 l7 e6 l6 e5 l5 e4 l4 e3 l3 e2 l2 e1 l1;simp only [e7,Nat.zero_add,Nat.reduceAdd] at e6 l6 e5 l5 e4 l4 e3 l3 e2 l2 e1 l1;simp only [e6,Nat.zero_add,Nat.reduceAdd] at e5 l5 e4 l4 e3 l3 e2 l2 e1 l1;simp only [e5,Nat.zero_add,Nat.reduceAdd] at e4 l4 e3 l3 e2 l2 e1 l1;simp only [e4,Nat.zero_add,Nat.reduceAdd] at e3 l3 e2 l2 e1 l1;simp only [e3,Nat.zero_add,Nat.reduceAdd] at e2 l2 e1 l1;rw [e2] at l1;dsimp only at l1;omega
end Go.Proofs.YtfkenhihcmmgkaaGreatDoor
