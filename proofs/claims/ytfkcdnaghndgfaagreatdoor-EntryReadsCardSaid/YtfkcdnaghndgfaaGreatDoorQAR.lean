/- A region that draws its order, walked by hand, in short: what is said again and again is a default. -/
import Derived.RowKit
import Derived.Test.YtfkcdnaghndgfaaGreatDoorQAQ
set_option linter.unusedVariables false
set_option linter.unusedSimpArgs false
set_option linter.unusedSectionVars false
namespace Go.Proofs.YtfkcdnaghndgfaaGreatDoor
open Go.RowKit
theorem hdT {P:Program} {md:Region.Mode} {ops:Array Oper} {Q:Exit→Act→World→Prop} {S:World→Prop} {oi:Oper} {v:Value} {fuel:Nat} {listed:Array Bool} {a:Act} {w:World} {G:Prop} (i:Nat) (d:Option Tmp) (h:G)
 (hi:ops[i]? =some oi:=by rfl) (hd:oi.dst=d:=by rfl)
 (hy : ∀ w,S w→(execOp a.eval oi).run P w = .ok (.value v) w:=by intro w hSw; (try dsimp only at hSw); go_simp; try with_reducible rfl)
 (hs:Region.noSelect ops=true:=by kernel_rfl) (hf:Region.free md ops listed i=true:=by kernel_rfl) (hr:(Region.ready md ops listed).contains i=true:=by kernel_rfl)
 (hQ : ∀ c a w,Q (.panic c) (a.put d v) w→Q (.panic c) a w:=by exact fun _ _ _ h=>h) (hw:Region.wanted oi (yielded ops a.tmps)=true:=by rfl) (hS:S w:=by assumption)
 (hn:wpAnyH P md ops Q S fuel (listed.setIfInBounds i true) (a.put d v) w=G:=by (try simp only [Act.put,List.setIfInBounds_toArray,List.set_cons_zero,List.set_cons_succ]); exact rfl):wpAnyH P md ops Q S (fuel+1) listed a w :=
 ZX hi hd hs hf hr hQ hw hy hS (hn▸h)
theorem hdK {P:Program} {md:Region.Mode} {ops:Array Oper} {Q:Exit→Act→World→Prop} {S:World→Prop} {oi:Oper} {fuel:Nat} {listed:Array Bool} {a:Act} {w:World} {G:Prop} (i:Nat) (d:Option Tmp) (h:G)
 (hi:ops[i]? =some oi:=by rfl) (hd:oi.dst=d:=by rfl)
 (hs:Region.noSelect ops=true:=by kernel_rfl) (hf:Region.free md ops listed i=true:=by kernel_rfl) (hr:(Region.ready md ops listed).contains i=true:=by kernel_rfl)
 (hQ : ∀ c a w,Q (.panic c) (a.put d undef) w→Q (.panic c) a w:=by exact fun _ _ _ h=>h) (hw:Region.wanted oi (yielded ops a.tmps)=false:=by rfl) (hS:S w:=by assumption)
 (hn:wpAnyH P md ops Q S fuel (listed.setIfInBounds i true) (a.put d undef) w=G:=by (try simp only [Act.put,List.setIfInBounds_toArray,List.set_cons_zero,List.set_cons_succ]); exact rfl):wpAnyH P md ops Q S (fuel+1) listed a w :=
 zgM hi hd hs hf hr hQ hw hS (hn▸h)
theorem hdN {X G:Prop} (h:G) (hn:X=G:=by (try simp only [Act.put,List.setIfInBounds_toArray,List.set_cons_zero,List.set_cons_succ]); exact rfl):X:=hn▸h
theorem hdO {P:Program} {md:Region.Mode} {ops:Array Oper} {Q:Exit→Act→World→Prop} {S:World→Prop} {o:Oper} {fuel:Nat} {listed:Array Bool} {a:Act} {w:World} (i:Nat)
 (h : ∀ K':Act→World→Prop,Shut (∀ a w,S w→(S w→wpAnyH P md ops Q S fuel (listed.setIfInBounds i true) a w)→K' a w)→if Region.wanted o (yielded ops a.tmps)=true then Oper.wp P o a w K' Q else K' (a.put o.dst undef) w)
 (ho:ops[i]? =some o:=by rfl) (hr:Region.ready md ops listed=[i]:=by kernel_rfl):wpAnyH P md ops Q S (fuel+1) listed a w :=
 wpAnyH_ready hr (by simp) (AllReadyH.cons ho h AllReadyH.nil)
end Go.Proofs.YtfkcdnaghndgfaaGreatDoor
namespace Go.Proofs.YtfkcdnaghndgfaaGreatDoor
open Go.RowKit
def vA (y m:Int):Int:=if y<1980∨2107<y then 0 else qI y m
set_option maxRecDepth 100000 in
theorem zdu (y m:Int) (w:World):Calls Tryz.prog 117 #[.int .i64 y,.int .i64 m] w fun e w'=>e = .returned (.int .i64 (vA y m))∧Upd [] w w':=by
 by_cases h1:y<1980
 · have HV:Hid (vA y m=0):=Lib.hid (if_pos (.inl h1))
   go_enter Tryz.func117,Tryz.ntmps117
   go_wp2
   go_returns
   exact ⟨by rw [HV.out]; rfl,.refl _ _⟩
 by_cases h2:2107<y
 · have HV:Hid (vA y m=0):=Lib.hid (if_pos (.inr h2))
   go_enter Tryz.func117,Tryz.ntmps117
   go_wp2
   go_returns
   exact ⟨by rw [HV.out]; rfl,.refl _ _⟩
 by_cases h3:m<1
 · have HV:Hid (vA y m=0):=Lib.hid (by unfold vA qI; rw [if_neg (by omega),if_pos (.inl h3)])
   go_enter Tryz.func117,Tryz.ntmps117
   go_wp2
   go_returns
   exact ⟨by rw [HV.out]; rfl,.refl _ _⟩
 by_cases h4:12<m
 · have HV:Hid (vA y m=0):=Lib.hid (by unfold vA qI; rw [if_neg (by omega),if_pos (.inr h4)])
   go_enter Tryz.func117,Tryz.ntmps117
   go_wp2
   go_returns
   exact ⟨by rw [HV.out]; rfl,.refl _ _⟩
 · have:=ze3 y m w (by omega) (by omega) (by omega) (by omega)
   unfold vA
   rw [if_neg (by omega)]
   exact this
def ZT (y m d h mi s:Int):Bool:=decide (1≤d)&&decide (d≤vA y m)&&(decide (0≤h)&&decide (h<24))&&(decide (0≤mi)&&decide (mi<60))&&(decide (0≤s)&&decide (s<60))&&decide (s%2=0)
set_option maxRecDepth 100000 in
set_option maxHeartbeats 6400000 in
theorem zbO (y m d h mi s:Int) (w:World) :
 Calls Tryz.prog 73 #[.agg #[.int .i64 y,.int .i64 m,.int .i64 d,.int .i64 h,.int .i64 mi,.int .i64 s]] w fun e w'=>e = .returned (.bool (ZT y m d h mi s))∧Upd [] w w':=by
 have HD:=Lib.hid (fun w'=>zdu y m w')
 have HRB:=Lib.hid (show ZT y m d h mi s=(decide (1≤d)&&decide (d≤vA y m)&&(decide (0≤h)&&decide (h<24))&&(decide (0≤mi)&&decide (mi<60))&&(decide (0≤s)&&decide (s<60))&&decide (s%2=0)) from rfl)
 generalize ZT y m d h mi s=B at *
 generalize vA y m=D at *
 go_enter Tryz.func73,Tryz.ntmps73
 go_upto_region 2 with fail
 have hB:=Blk.new w [.int .i64 y,.int .i64 m,.int .i64 d,.int .i64 h,.int .i64 mi,.int .i64 s] 111
 have hU:Upd [] w (w.alloc (.cells #[.int .i64 y,.int .i64 m,.int .i64 d,.int .i64 h,.int .i64 mi,.int .i64 s] 111)):=(Upd.refl [] w).alloc _
 change Code.wp _ _ _ _ (w.alloc (.cells #[.int .i64 y,.int .i64 m,.int .i64 d,.int .i64 h,.int .i64 mi,.int .i64 s] 111))
 generalize w.alloc (.cells #[.int .i64 y,.int .i64 m,.int .i64 d,.int .i64 h,.int .i64 mi,.int .i64 s] 111)=w1 at *
 generalize hb:w.heap.size=b at *
 have HW:=Lib.hid hb
 clear hb
 have c0:=hB.cell 0 rfl
 have c1:=hB.cell 1 rfl
 have c2:=hB.cell 2 rfl
 have c3:=hB.cell 3 rfl
 have c4:=hB.cell 4 rfl
 have c5:=hB.cell 5 rfl
 cases t1:decide (1≤d) with
 | true =>
   cases t2:decide (d≤D) with
   | true =>
     cases t3:(decide (0≤h)&&decide (h<24)) with
     | true =>
       cases t4:(decide (0≤mi)&&decide (mi<60)) with
       | true =>
         cases t5:(decide (0≤s)&&decide (s<60)) with
         | true =>
           have I2:=Lib.hid (fun w'=>show Calls Tryz.prog 116 #[.int .i64 h,.int .i64 24] w' fun e w2=>e = .returned (.bool true)∧w'=w2 from by have h:=jv h 24 w'; rw [t3] at h; exact h)
           have I3:=Lib.hid (fun w'=>show Calls Tryz.prog 116 #[.int .i64 mi,.int .i64 60] w' fun e w2=>e = .returned (.bool true)∧w'=w2 from by have h:=jv mi 60 w'; rw [t4] at h; exact h)
           have I4:=Lib.hid (fun w'=>show Calls Tryz.prog 116 #[.int .i64 s,.int .i64 60] w' fun e w2=>e = .returned (.bool true)∧w'=w2 from by have h:=jv s 60 w'; rw [t5] at h; exact h)
           have T3:=Lib.hid t3
           have T4:=Lib.hid t4
           have T5:=Lib.hid t5
           clear t3 t4 t5
           have hs0:0≤s:=by have:=T5.out; simp at this; omega
           refine wp_region_held_drew (S:=fun w'=>w'.cell? ⟨b,0,none⟩=some (.int .i64 y)∧w'.cell? ⟨b,1,none⟩=some (.int .i64 m)∧w'.cell? ⟨b,2,none⟩=some (.int .i64 d)∧w'.cell? ⟨b,3,none⟩=some (.int .i64 h)∧w'.cell? ⟨b,4,none⟩=some (.int .i64 mi)∧w'.cell? ⟨b,5,none⟩=some (.int .i64 s)) (by kernel_rfl) ⟨c0,c1,c2,c3,c4,c5⟩ (fun hHeld=>hdN ?_)
           refine hdT 0 (some 4) ?_; refine hdT 1 (some 5) ?_; refine hdT 2 (some 6) ?_; refine hdT 3 (some 7) ?_; refine hdT 4 (some 8) ?_
           refine hdT 5 (some 9) ?_; refine hdT 6 (some 10) ?_; refine hdT 7 (some 11) ?_; refine hdT 8 (some 12) ?_; refine hdT 9 (some 13) ?_
           refine hdO 10 (fun K hK=>?_)
           go_simp
           go_at_call 117
           refine (HD.out _).mono ?_
           rintro e w2 ⟨rfl,hU2⟩
           have hB2:Blk w2 b _ _:=(hU2.block b hB.lt (by simp)).trans hB
           have hS:w2.cell? ⟨b,0,none⟩=some (.int .i64 y)∧w2.cell? ⟨b,1,none⟩=some (.int .i64 m)∧w2.cell? ⟨b,2,none⟩=some (.int .i64 d)∧w2.cell? ⟨b,3,none⟩=some (.int .i64 h)∧w2.cell? ⟨b,4,none⟩=some (.int .i64 mi)∧w2.cell? ⟨b,5,none⟩=some (.int .i64 s):=⟨hB2.cell 0 rfl,hB2.cell 1 rfl,hB2.cell 2 rfl,hB2.cell 3 rfl,hB2.cell 4 rfl,hB2.cell 5 rfl⟩
           go_wp2
           refine hK.out _ _ hS (fun hHeld=>hdN ?_)
           clear hK K
           refine hdT 11 (some 15) ?_; refine hdT 12 (some 16) ?_; refine hdT 13 (some 17) ?_; refine hdT 14 (some 18) ?_; refine hdT 15 (some 19) ?_
           refine hdT 16 (some 20) ?_
           refine hdO 17 (fun K hK=>?_)
           go_simp
           go_at_call 116
           refine (I2.out _).mono ?_
           rintro e w3 ⟨rfl,rfl⟩
           go_wp2
           refine hK.out _ _ hS (fun hHeld=>hdN ?_)
           clear hK K
           refine hdT 18 (some 22) ?_; refine hdT 19 (some 23) ?_; refine hdT 20 (some 24) ?_; refine hdT 21 (some 25) ?_; refine hdT 22 (some 26) ?_
           refine hdO 23 (fun K hK=>?_)
           go_simp
           go_at_call 116
           refine (I3.out _).mono ?_
           rintro e w3 ⟨rfl,rfl⟩
           go_wp2
           refine hK.out _ _ hS (fun hHeld=>hdN ?_)
           clear hK K
           refine hdT 24 (some 28) ?_; refine hdT 25 (some 29) ?_; refine hdT 26 (some 30) ?_; refine hdT 27 (some 31) ?_; refine hdT 28 (some 32) ?_
           refine hdO 29 (fun K hK=>?_)
           go_simp
           go_at_call 116
           refine (I4.out _).mono ?_
           rintro e w3 ⟨rfl,rfl⟩
           go_wp2
           refine hK.out _ _ hS (fun hHeld=>hdN ?_)
           clear hK K
           refine hdT 30 (some 34) ?_; refine hdT 31 (some 35) ?_; refine hdT 32 (some 36) ?_; refine hdT 33 (some 37) ?_; refine hdT 34 (some 38) ?_
           refine hdT 35 (some 39) ?_; refine hdT 36 (some 40) ?_; refine hdT 37 (some 2) ?_
           refine wpAnyH_done (by kernel_rfl) ?_ 0
           go_wp2
           go_returns
           exact ⟨by rw [HRB.out,t1,t2,T3.out,T4.out,T5.out]; show Ending.returned (.bool (s.tmod 2==0))=_; rw [Int.tmod_eq_emod_of_nonneg hs0]; by_cases e:s%2=0<;>simp [e],(hU.drew.then hU2)⟩
         | false =>
           have I2:=Lib.hid (fun w'=>show Calls Tryz.prog 116 #[.int .i64 h,.int .i64 24] w' fun e w2=>e = .returned (.bool true)∧w'=w2 from by have h:=jv h 24 w'; rw [t3] at h; exact h)
           have I3:=Lib.hid (fun w'=>show Calls Tryz.prog 116 #[.int .i64 mi,.int .i64 60] w' fun e w2=>e = .returned (.bool true)∧w'=w2 from by have h:=jv mi 60 w'; rw [t4] at h; exact h)
           have I4:=Lib.hid (fun w'=>show Calls Tryz.prog 116 #[.int .i64 s,.int .i64 60] w' fun e w2=>e = .returned (.bool false)∧w'=w2 from by have h:=jv s 60 w'; rw [t5] at h; exact h)
           have T3:=Lib.hid t3
           have T4:=Lib.hid t4
           have T5:=Lib.hid t5
           clear t3 t4 t5
           refine wp_region_held_drew (S:=fun w'=>w'.cell? ⟨b,0,none⟩=some (.int .i64 y)∧w'.cell? ⟨b,1,none⟩=some (.int .i64 m)∧w'.cell? ⟨b,2,none⟩=some (.int .i64 d)∧w'.cell? ⟨b,3,none⟩=some (.int .i64 h)∧w'.cell? ⟨b,4,none⟩=some (.int .i64 mi)∧w'.cell? ⟨b,5,none⟩=some (.int .i64 s)) (by kernel_rfl) ⟨c0,c1,c2,c3,c4,c5⟩ (fun hHeld=>hdN ?_)
           refine hdT 0 (some 4) ?_; refine hdT 1 (some 5) ?_; refine hdT 2 (some 6) ?_; refine hdT 3 (some 7) ?_; refine hdT 4 (some 8) ?_
           refine hdT 5 (some 9) ?_; refine hdT 6 (some 10) ?_; refine hdT 7 (some 11) ?_; refine hdT 8 (some 12) ?_; refine hdT 9 (some 13) ?_
           refine hdO 10 (fun K hK=>?_)
           go_simp
           go_at_call 117
           refine (HD.out _).mono ?_
           rintro e w2 ⟨rfl,hU2⟩
           have hB2:Blk w2 b _ _:=(hU2.block b hB.lt (by simp)).trans hB
           have hS:w2.cell? ⟨b,0,none⟩=some (.int .i64 y)∧w2.cell? ⟨b,1,none⟩=some (.int .i64 m)∧w2.cell? ⟨b,2,none⟩=some (.int .i64 d)∧w2.cell? ⟨b,3,none⟩=some (.int .i64 h)∧w2.cell? ⟨b,4,none⟩=some (.int .i64 mi)∧w2.cell? ⟨b,5,none⟩=some (.int .i64 s):=⟨hB2.cell 0 rfl,hB2.cell 1 rfl,hB2.cell 2 rfl,hB2.cell 3 rfl,hB2.cell 4 rfl,hB2.cell 5 rfl⟩
           go_wp2
           refine hK.out _ _ hS (fun hHeld=>hdN ?_)
           clear hK K
           refine hdT 11 (some 15) ?_; refine hdT 12 (some 16) ?_; refine hdT 13 (some 17) ?_; refine hdT 14 (some 18) ?_; refine hdT 15 (some 19) ?_
           refine hdT 16 (some 20) ?_
           refine hdO 17 (fun K hK=>?_)
           go_simp
           go_at_call 116
           refine (I2.out _).mono ?_
           rintro e w3 ⟨rfl,rfl⟩
           go_wp2
           refine hK.out _ _ hS (fun hHeld=>hdN ?_)
           clear hK K
           refine hdT 18 (some 22) ?_; refine hdT 19 (some 23) ?_; refine hdT 20 (some 24) ?_; refine hdT 21 (some 25) ?_; refine hdT 22 (some 26) ?_
           refine hdO 23 (fun K hK=>?_)
           go_simp
           go_at_call 116
           refine (I3.out _).mono ?_
           rintro e w3 ⟨rfl,rfl⟩
           go_wp2
           refine hK.out _ _ hS (fun hHeld=>hdN ?_)
           clear hK K
           refine hdT 24 (some 28) ?_; refine hdT 25 (some 29) ?_; refine hdT 26 (some 30) ?_; refine hdT 27 (some 31) ?_; refine hdT 28 (some 32) ?_
           refine hdO 29 (fun K hK=>?_)
           go_simp
           go_at_call 116
           refine (I4.out _).mono ?_
           rintro e w3 ⟨rfl,rfl⟩
           go_wp2
           refine hK.out _ _ hS (fun hHeld=>hdN ?_)
           clear hK K
           refine hdT 30 (some 34) ?_; refine hdT 31 (some 35) ?_; refine hdK 32 (some 36) ?_; refine hdK 33 (some 37) ?_; refine hdK 34 (some 38) ?_
           refine hdK 35 (some 39) ?_; refine hdT 36 (some 40) ?_; refine hdT 37 (some 2) ?_
           refine wpAnyH_done (by kernel_rfl) ?_ 0
           go_wp2
           go_returns
           exact ⟨by rw [HRB.out,t1,t2,T3.out,T4.out,T5.out]; rfl,(hU.drew.then hU2)⟩
       | false =>
         have I2:=Lib.hid (fun w'=>show Calls Tryz.prog 116 #[.int .i64 h,.int .i64 24] w' fun e w2=>e = .returned (.bool true)∧w'=w2 from by have h:=jv h 24 w'; rw [t3] at h; exact h)
         have I3:=Lib.hid (fun w'=>show Calls Tryz.prog 116 #[.int .i64 mi,.int .i64 60] w' fun e w2=>e = .returned (.bool false)∧w'=w2 from by have h:=jv mi 60 w'; rw [t4] at h; exact h)
         have T3:=Lib.hid t3
         have T4:=Lib.hid t4
         clear t3 t4
         refine wp_region_held_drew (S:=fun w'=>w'.cell? ⟨b,0,none⟩=some (.int .i64 y)∧w'.cell? ⟨b,1,none⟩=some (.int .i64 m)∧w'.cell? ⟨b,2,none⟩=some (.int .i64 d)∧w'.cell? ⟨b,3,none⟩=some (.int .i64 h)∧w'.cell? ⟨b,4,none⟩=some (.int .i64 mi)∧w'.cell? ⟨b,5,none⟩=some (.int .i64 s)) (by kernel_rfl) ⟨c0,c1,c2,c3,c4,c5⟩ (fun hHeld=>hdN ?_)
         refine hdT 0 (some 4) ?_; refine hdT 1 (some 5) ?_; refine hdT 2 (some 6) ?_; refine hdT 3 (some 7) ?_; refine hdT 4 (some 8) ?_
         refine hdT 5 (some 9) ?_; refine hdT 6 (some 10) ?_; refine hdT 7 (some 11) ?_; refine hdT 8 (some 12) ?_; refine hdT 9 (some 13) ?_
         refine hdO 10 (fun K hK=>?_)
         go_simp
         go_at_call 117
         refine (HD.out _).mono ?_
         rintro e w2 ⟨rfl,hU2⟩
         have hB2:Blk w2 b _ _:=(hU2.block b hB.lt (by simp)).trans hB
         have hS:w2.cell? ⟨b,0,none⟩=some (.int .i64 y)∧w2.cell? ⟨b,1,none⟩=some (.int .i64 m)∧w2.cell? ⟨b,2,none⟩=some (.int .i64 d)∧w2.cell? ⟨b,3,none⟩=some (.int .i64 h)∧w2.cell? ⟨b,4,none⟩=some (.int .i64 mi)∧w2.cell? ⟨b,5,none⟩=some (.int .i64 s):=⟨hB2.cell 0 rfl,hB2.cell 1 rfl,hB2.cell 2 rfl,hB2.cell 3 rfl,hB2.cell 4 rfl,hB2.cell 5 rfl⟩
         go_wp2
         refine hK.out _ _ hS (fun hHeld=>hdN ?_)
         clear hK K
         refine hdT 11 (some 15) ?_; refine hdT 12 (some 16) ?_; refine hdT 13 (some 17) ?_; refine hdT 14 (some 18) ?_; refine hdT 15 (some 19) ?_
         refine hdT 16 (some 20) ?_
         refine hdO 17 (fun K hK=>?_)
         go_simp
         go_at_call 116
         refine (I2.out _).mono ?_
         rintro e w3 ⟨rfl,rfl⟩
         go_wp2
         refine hK.out _ _ hS (fun hHeld=>hdN ?_)
         clear hK K
         refine hdT 18 (some 22) ?_; refine hdT 19 (some 23) ?_; refine hdT 20 (some 24) ?_; refine hdT 21 (some 25) ?_; refine hdT 22 (some 26) ?_
         refine hdO 23 (fun K hK=>?_)
         go_simp
         go_at_call 116
         refine (I3.out _).mono ?_
         rintro e w3 ⟨rfl,rfl⟩
         go_wp2
         refine hK.out _ _ hS (fun hHeld=>hdN ?_)
         clear hK K
         refine hdT 24 (some 28) ?_; refine hdT 25 (some 29) ?_; refine hdK 26 (some 30) ?_; refine hdK 27 (some 31) ?_; refine hdK 28 (some 32) ?_
         refine hdK 29 (some 33) ?_; refine hdT 30 (some 34) ?_; refine hdT 31 (some 35) ?_; refine hdK 32 (some 36) ?_; refine hdK 33 (some 37) ?_
         refine hdK 34 (some 38) ?_; refine hdK 35 (some 39) ?_; refine hdT 36 (some 40) ?_; refine hdT 37 (some 2) ?_
         refine wpAnyH_done (by kernel_rfl) ?_ 0
         go_wp2
         go_returns
         exact ⟨by rw [HRB.out,t1,t2,T3.out,T4.out]; rfl,(hU.drew.then hU2)⟩
     | false =>
       have I2:=Lib.hid (fun w'=>show Calls Tryz.prog 116 #[.int .i64 h,.int .i64 24] w' fun e w2=>e = .returned (.bool false)∧w'=w2 from by have h:=jv h 24 w'; rw [t3] at h; exact h)
       have T3:=Lib.hid t3
       clear t3
       refine wp_region_held_drew (S:=fun w'=>w'.cell? ⟨b,0,none⟩=some (.int .i64 y)∧w'.cell? ⟨b,1,none⟩=some (.int .i64 m)∧w'.cell? ⟨b,2,none⟩=some (.int .i64 d)∧w'.cell? ⟨b,3,none⟩=some (.int .i64 h)∧w'.cell? ⟨b,4,none⟩=some (.int .i64 mi)∧w'.cell? ⟨b,5,none⟩=some (.int .i64 s)) (by kernel_rfl) ⟨c0,c1,c2,c3,c4,c5⟩ (fun hHeld=>hdN ?_)
       refine hdT 0 (some 4) ?_; refine hdT 1 (some 5) ?_; refine hdT 2 (some 6) ?_; refine hdT 3 (some 7) ?_; refine hdT 4 (some 8) ?_
       refine hdT 5 (some 9) ?_; refine hdT 6 (some 10) ?_; refine hdT 7 (some 11) ?_; refine hdT 8 (some 12) ?_; refine hdT 9 (some 13) ?_
       refine hdO 10 (fun K hK=>?_)
       go_simp
       go_at_call 117
       refine (HD.out _).mono ?_
       rintro e w2 ⟨rfl,hU2⟩
       have hB2:Blk w2 b _ _:=(hU2.block b hB.lt (by simp)).trans hB
       have hS:w2.cell? ⟨b,0,none⟩=some (.int .i64 y)∧w2.cell? ⟨b,1,none⟩=some (.int .i64 m)∧w2.cell? ⟨b,2,none⟩=some (.int .i64 d)∧w2.cell? ⟨b,3,none⟩=some (.int .i64 h)∧w2.cell? ⟨b,4,none⟩=some (.int .i64 mi)∧w2.cell? ⟨b,5,none⟩=some (.int .i64 s):=⟨hB2.cell 0 rfl,hB2.cell 1 rfl,hB2.cell 2 rfl,hB2.cell 3 rfl,hB2.cell 4 rfl,hB2.cell 5 rfl⟩
       go_wp2
       refine hK.out _ _ hS (fun hHeld=>hdN ?_)
       clear hK K
       refine hdT 11 (some 15) ?_; refine hdT 12 (some 16) ?_; refine hdT 13 (some 17) ?_; refine hdT 14 (some 18) ?_; refine hdT 15 (some 19) ?_
       refine hdT 16 (some 20) ?_
       refine hdO 17 (fun K hK=>?_)
       go_simp
       go_at_call 116
       refine (I2.out _).mono ?_
       rintro e w3 ⟨rfl,rfl⟩
       go_wp2
       refine hK.out _ _ hS (fun hHeld=>hdN ?_)
       clear hK K
       refine hdT 18 (some 22) ?_; refine hdT 19 (some 23) ?_; refine hdK 20 (some 24) ?_; refine hdK 21 (some 25) ?_; refine hdK 22 (some 26) ?_
       refine hdK 23 (some 27) ?_; refine hdT 24 (some 28) ?_; refine hdT 25 (some 29) ?_; refine hdK 26 (some 30) ?_; refine hdK 27 (some 31) ?_
       refine hdK 28 (some 32) ?_; refine hdK 29 (some 33) ?_; refine hdT 30 (some 34) ?_; refine hdT 31 (some 35) ?_; refine hdK 32 (some 36) ?_
       refine hdK 33 (some 37) ?_; refine hdK 34 (some 38) ?_; refine hdK 35 (some 39) ?_; refine hdT 36 (some 40) ?_; refine hdT 37 (some 2) ?_
       refine wpAnyH_done (by kernel_rfl) ?_ 0
       go_wp2
       go_returns
       exact ⟨by rw [HRB.out,t1,t2,T3.out]; rfl,(hU.drew.then hU2)⟩
   | false =>
     refine wp_region_held_drew (S:=fun w'=>w'.cell? ⟨b,0,none⟩=some (.int .i64 y)∧w'.cell? ⟨b,1,none⟩=some (.int .i64 m)∧w'.cell? ⟨b,2,none⟩=some (.int .i64 d)∧w'.cell? ⟨b,3,none⟩=some (.int .i64 h)∧w'.cell? ⟨b,4,none⟩=some (.int .i64 mi)∧w'.cell? ⟨b,5,none⟩=some (.int .i64 s)) (by kernel_rfl) ⟨c0,c1,c2,c3,c4,c5⟩ (fun hHeld=>hdN ?_)
     refine hdT 0 (some 4) ?_; refine hdT 1 (some 5) ?_; refine hdT 2 (some 6) ?_; refine hdT 3 (some 7) ?_; refine hdT 4 (some 8) ?_
     refine hdT 5 (some 9) ?_; refine hdT 6 (some 10) ?_; refine hdT 7 (some 11) ?_; refine hdT 8 (some 12) ?_; refine hdT 9 (some 13) ?_
     refine hdO 10 (fun K hK=>?_)
     go_simp
     go_at_call 117
     refine (HD.out _).mono ?_
     rintro e w2 ⟨rfl,hU2⟩
     have hB2:Blk w2 b _ _:=(hU2.block b hB.lt (by simp)).trans hB
     have hS:w2.cell? ⟨b,0,none⟩=some (.int .i64 y)∧w2.cell? ⟨b,1,none⟩=some (.int .i64 m)∧w2.cell? ⟨b,2,none⟩=some (.int .i64 d)∧w2.cell? ⟨b,3,none⟩=some (.int .i64 h)∧w2.cell? ⟨b,4,none⟩=some (.int .i64 mi)∧w2.cell? ⟨b,5,none⟩=some (.int .i64 s):=⟨hB2.cell 0 rfl,hB2.cell 1 rfl,hB2.cell 2 rfl,hB2.cell 3 rfl,hB2.cell 4 rfl,hB2.cell 5 rfl⟩
     go_wp2
     refine hK.out _ _ hS (fun hHeld=>hdN ?_)
     clear hK K
     refine hdT 11 (some 15) ?_; refine hdT 12 (some 16) ?_; refine hdT 13 (some 17) ?_; refine hdK 14 (some 18) ?_; refine hdK 15 (some 19) ?_
     refine hdK 16 (some 20) ?_; refine hdK 17 (some 21) ?_; refine hdT 18 (some 22) ?_; refine hdT 19 (some 23) ?_; refine hdK 20 (some 24) ?_
     refine hdK 21 (some 25) ?_; refine hdK 22 (some 26) ?_; refine hdK 23 (some 27) ?_; refine hdT 24 (some 28) ?_; refine hdT 25 (some 29) ?_
     refine hdK 26 (some 30) ?_; refine hdK 27 (some 31) ?_; refine hdK 28 (some 32) ?_; refine hdK 29 (some 33) ?_; refine hdT 30 (some 34) ?_
     refine hdT 31 (some 35) ?_; refine hdK 32 (some 36) ?_; refine hdK 33 (some 37) ?_; refine hdK 34 (some 38) ?_; refine hdK 35 (some 39) ?_
     refine hdT 36 (some 40) ?_; refine hdT 37 (some 2) ?_
     refine wpAnyH_done (by kernel_rfl) ?_ 0
     go_wp2
     go_returns
     exact ⟨by rw [HRB.out,t1,t2]; rfl,(hU.drew.then hU2)⟩
 | false =>
   refine wp_region_held_drew (S:=fun w'=>w'.cell? ⟨b,0,none⟩=some (.int .i64 y)∧w'.cell? ⟨b,1,none⟩=some (.int .i64 m)∧w'.cell? ⟨b,2,none⟩=some (.int .i64 d)∧w'.cell? ⟨b,3,none⟩=some (.int .i64 h)∧w'.cell? ⟨b,4,none⟩=some (.int .i64 mi)∧w'.cell? ⟨b,5,none⟩=some (.int .i64 s)) (by kernel_rfl) ⟨c0,c1,c2,c3,c4,c5⟩ (fun hHeld=>hdN ?_)
   refine hdT 0 (some 4) ?_; refine hdT 1 (some 5) ?_; refine hdT 2 (some 6) ?_; refine hdT 3 (some 7) ?_; refine hdK 4 (some 8) ?_
   refine hdK 5 (some 9) ?_; refine hdK 6 (some 10) ?_; refine hdK 7 (some 11) ?_; refine hdK 8 (some 12) ?_; refine hdK 9 (some 13) ?_
   refine hdK 10 (some 14) ?_; refine hdK 11 (some 15) ?_; refine hdT 12 (some 16) ?_; refine hdT 13 (some 17) ?_; refine hdK 14 (some 18) ?_
   refine hdK 15 (some 19) ?_; refine hdK 16 (some 20) ?_; refine hdK 17 (some 21) ?_; refine hdT 18 (some 22) ?_; refine hdT 19 (some 23) ?_
   refine hdK 20 (some 24) ?_; refine hdK 21 (some 25) ?_; refine hdK 22 (some 26) ?_; refine hdK 23 (some 27) ?_; refine hdT 24 (some 28) ?_
   refine hdT 25 (some 29) ?_; refine hdK 26 (some 30) ?_; refine hdK 27 (some 31) ?_; refine hdK 28 (some 32) ?_; refine hdK 29 (some 33) ?_
   refine hdT 30 (some 34) ?_; refine hdT 31 (some 35) ?_; refine hdK 32 (some 36) ?_; refine hdK 33 (some 37) ?_; refine hdK 34 (some 38) ?_
   refine hdK 35 (some 39) ?_; refine hdT 36 (some 40) ?_; refine hdT 37 (some 2) ?_
   refine wpAnyH_done (by kernel_rfl) ?_ 0
   go_wp2
   go_returns
   exact ⟨by rw [HRB.out,t1]; rfl,hU.drew⟩
end Go.Proofs.YtfkcdnaghndgfaaGreatDoor
namespace Go.Proofs.YtfkcdnaghndgfaaGreatDoor
open Go.RowKit
structure PartsOk (y m d h mi s:Int):Prop where
 y0:1980≤y
 y1:y≤2107
 m0:0≤m
 m1:m≤15
 d0:0≤d
 d1:d≤31
 h0:0≤h
 h1:h≤31
 i0:0≤mi
 i1:mi≤63
 s0:0≤s
 s1:s≤62
def kt (y m d h mi s:Int):Bool:=decide (1≤d)&&decide (d≤qI y m)&&decide (h<24)&&decide (mi<60)&&decide (s<60)&&decide (s%2=0)
theorem zbJ (y m d h mi s:Int) (w:World) (hp:PartsOk y m d h mi s) :
 Calls Tryz.prog 73 #[.agg #[.int .i64 y,.int .i64 m,.int .i64 d,.int .i64 h,.int .i64 mi,.int .i64 s]] w fun e w'=>e = .returned (.bool (kt y m d h mi s))∧Upd [] w w':=by
 have e:ZT y m d h mi s=kt y m d h mi s:=by
  have h1:vA y m=qI y m:=if_neg (by have:=hp.y0; have:=hp.y1; omega)
  unfold ZT kt
  rw [h1,decide_eq_true hp.h0,decide_eq_true hp.i0,decide_eq_true hp.s0,Bool.true_and,Bool.true_and,Bool.true_and]
 rw [← e]
 exact zbO y m d h mi s w
end Go.Proofs.YtfkcdnaghndgfaaGreatDoor
namespace Go.Proofs.YtfkcdnaghndgfaaGreatDoor
open Go.RowKit
def Zr (t:Nat):Bool:=kt (1980+(t:Int)/33554432%128) ((t:Int)/2097152%16) ((t:Int)/65536%32) ((t:Int)/2048%32) ((t:Int)/32%64) (2*((t:Int)%32))
theorem zao (t:Nat):PartsOk (1980+(t:Int)/33554432%128) ((t:Int)/2097152%16) ((t:Int)/65536%32) ((t:Int)/2048%32) ((t:Int)/32%64) (2*((t:Int)%32)):=by
 constructor<;>omega
theorem Qg (t:Nat) (w:World) (ht:t<4294967296):Calls Tryz.prog 36 #[.int .u32 (t:Nat)] w fun e w'=>e = .returned (.bool (Zr t))∧Upd [] w w':=by
 have HS:=Lib.hid (zbU t w ht)
 have HR:=Lib.hid (fun w'=>zbJ _ _ _ _ _ _ w' (zao t))
 have HT:=Lib.hid (show Zr t=kt (1980+(t:Int)/33554432%128) ((t:Int)/2097152%16) ((t:Int)/65536%32) ((t:Int)/2048%32) ((t:Int)/32%64) (2*((t:Int)%32)) from rfl)
 unfold vH at HS
 go_enter Tryz.func36,Tryz.ntmps36
 go_wp2_with fail
 refine HS.out.mono ?_
 rintro e w1 ⟨rfl,hU1⟩
 go_wp2_with fail
 refine (HR.out w1).mono ?_
 rintro e w2 ⟨rfl,hU2⟩
 go_wp2
 go_returns
 exact ⟨by rw [HT.out]; rfl,hU1.then hU2⟩
set_option maxRecDepth 100000 in
set_option maxHeartbeats 3200000 in
theorem zcc (t:Nat) (w:World) (ht:t<4294967296):Calls Tryz.prog 55 #[.int .u32 (t:Nat)] w fun e w'=>e = .returned (.agg (vH t).toArray)∧Upd [] w w':=by
 have e1:(t:Int)/33554432%128=(t:Int)/32/64/32/32/16:=by omega
 have e2:(t:Int)/2097152%16=(t:Int)/32/64/32/32%16:=by omega
 have e3:(t:Int)/65536%32=(t:Int)/32/64/32%32:=by omega
 have e4:(t:Int)/2048%32=(t:Int)/32/64%32:=by omega
 have HP:=Lib.hid (show vH t=[.int .i64 (1980+(t:Int)/32/64/32/32/16),.int .i64 ((t:Int)/32/64/32/32%16),.int .i64 ((t:Int)/32/64/32%32),.int .i64 ((t:Int)/32/64%32),.int .i64 ((t:Int)/32%64),.int .i64 (2*((t:Int)%32))] from by unfold vH; rw [e1,e2,e3,e4])
 clear e1 e2 e3 e4
 go_enter Tryz.func55,Tryz.ntmps55
 go_wp2
 have hB:=(Blk.new w [.int .i64 (1980+(t:Int)/32/64/32/32/16),.int .i64 ((t:Int)/32/64/32/32%16),.int .i64 ((t:Int)/32/64/32%32),.int .i64 ((t:Int)/32/64%32),.int .i64 ((t:Int)/32%64),.int .i64 (2*((t:Int)%32))] 89).alloc (Obj.cells #[.int .i64 (1980+(t:Int)/32/64/32/32/16),.int .i64 ((t:Int)/32/64/32/32%16),.int .i64 ((t:Int)/32/64/32%32),.int .i64 ((t:Int)/32/64%32),.int .i64 ((t:Int)/32%64),.int .i64 (2*((t:Int)%32))] 89)
 rw [HP.out]
 refine bodyPost_ret (results_cell_row rfl _ _ w.heap.size 89 _ (0,0) _ (by simp) hB Tryz.underlying89 rfl (by rw [ziE]; rfl)) (by simp) ⟨rfl,?_⟩
 exact ((Upd.refl [] w).alloc _).alloc _
theorem zcA {y m d h mi s:Int}:kt y m d h mi s=(decide (1≤d)&&decide (d≤qI y m)&&decide (h≤23)&&decide (mi≤59)&&(decide (s≤58)&&decide (s%2=0))):=by
 unfold kt
 have e1:decide (h<24)=decide (h≤23):=decide_eq_decide.2 (by omega)
 have e2:decide (mi<60)=decide (mi≤59):=decide_eq_decide.2 (by omega)
 have e3:(decide (s<60)&&decide (s%2=0))=(decide (s≤58)&&decide (s%2=0)):=by
  rw [← Bool.decide_and,← Bool.decide_and]; exact decide_eq_decide.2 (by omega)
 rw [e1,e2,Bool.and_assoc,e3]
set_option maxRecDepth 100000 in
set_option maxHeartbeats 6400000 in
theorem zbt (y m d h mi s:Int) (w:World) (hp:PartsOk y m d h mi s) :
 Calls Tryz.prog 54 #[.agg #[.int .i64 y,.int .i64 m,.int .i64 d,.int .i64 h,.int .i64 mi,.int .i64 s]] w fun e w'=>e = .returned (.bool (kt y m d h mi s))∧Upd [] w w':=by
 obtain ⟨y0,y1,m0,m1,d0,d1,h0,h1,i0,i1,s0,s1⟩:=hp
 have HD:=Lib.hid (fun w'=>zej y m w' y0 y1 m0 m1)
 have HRB:=Lib.hid (zcA (y:=y) (m:=m) (d:=d) (h:=h) (mi:=mi) (s:=s))
 have u1:decide (0≤h)=true:=decide_eq_true h0
 have u2:decide (0≤mi)=true:=decide_eq_true i0
 have u3:decide (0≤s)=true:=decide_eq_true s0
 generalize kt y m d h mi s=B at *
 generalize qI y m=D at *
 go_enter Tryz.func54,Tryz.ntmps54
 go_upto_region 1 with fail
 have hB:=Blk.new w [.int .i64 y,.int .i64 m,.int .i64 d,.int .i64 h,.int .i64 mi,.int .i64 s] 89
 have hU:Upd [] w (w.alloc (.cells #[.int .i64 y,.int .i64 m,.int .i64 d,.int .i64 h,.int .i64 mi,.int .i64 s] 89)):=(Upd.refl [] w).alloc _
 change Code.wp _ _ _ _ (w.alloc (.cells #[.int .i64 y,.int .i64 m,.int .i64 d,.int .i64 h,.int .i64 mi,.int .i64 s] 89))
 generalize w.alloc (.cells #[.int .i64 y,.int .i64 m,.int .i64 d,.int .i64 h,.int .i64 mi,.int .i64 s] 89)=w1 at *
 generalize hb:w.heap.size=b at *
 have HW:=Lib.hid hb
 clear hb
 have cA:=hB.all
 by_cases k1:1≤d
 · by_cases k2:d≤D
   · by_cases k3:h≤23
     · by_cases k4:mi≤59
       · by_cases k5:s≤58
         · have t1:decide (1≤d)=true:=decide_eq_true k1
           have t2:decide (d≤D)=true:=decide_eq_true k2
           have t3:decide (h≤23)=true:=decide_eq_true k3
           have t4:decide (mi≤59)=true:=decide_eq_true k4
           have t5:decide (s≤58)=true:=decide_eq_true k5
           go_quiet ((go_at_call 92; exact Calls.quiet_of_same ((HD.out _).mono fun _ _ ⟨h1,h2⟩=>⟨h1,h2.symm⟩)))
           go_wp2
           go_returns
           exact ⟨by rw [HRB.out,t1,t2,t3,t4,t5]; show Ending.returned (.bool (s%2==0))=_; by_cases e:s%2=0<;>simp [e],hU.drewN _⟩
         · have t1:decide (1≤d)=true:=decide_eq_true k1
           have t2:decide (d≤D)=true:=decide_eq_true k2
           have t3:decide (h≤23)=true:=decide_eq_true k3
           have t4:decide (mi≤59)=true:=decide_eq_true k4
           have t5:decide (s≤58)=false:=decide_eq_false k5
           go_quiet ((go_at_call 92; exact Calls.quiet_of_same ((HD.out _).mono fun _ _ ⟨h1,h2⟩=>⟨h1,h2.symm⟩)))
           go_wp2
           go_returns
           exact ⟨by rw [HRB.out,t1,t2,t3,t4]; show Ending.returned (.bool false)=_; rw [show (decide (s≤58)&&decide (s%2=0))=false from by rw [t5]; rfl]; rfl,hU.drewN _⟩
       · have t1:decide (1≤d)=true:=decide_eq_true k1
         have t2:decide (d≤D)=true:=decide_eq_true k2
         have t3:decide (h≤23)=true:=decide_eq_true k3
         have t4:decide (mi≤59)=false:=decide_eq_false k4
         go_quiet ((go_at_call 92; exact Calls.quiet_of_same ((HD.out _).mono fun _ _ ⟨h1,h2⟩=>⟨h1,h2.symm⟩)))
         go_wp2
         go_returns
         exact ⟨by rw [HRB.out,t1,t2,t3,t4]; rfl,hU.drewN _⟩
     · have t1:decide (1≤d)=true:=decide_eq_true k1
       have t2:decide (d≤D)=true:=decide_eq_true k2
       have t3:decide (h≤23)=false:=decide_eq_false k3
       go_quiet ((go_at_call 92; exact Calls.quiet_of_same ((HD.out _).mono fun _ _ ⟨h1,h2⟩=>⟨h1,h2.symm⟩)))
       go_wp2
       go_returns
       exact ⟨by rw [HRB.out,t1,t2,t3]; rfl,hU.drewN _⟩
   · have t1:decide (1≤d)=true:=decide_eq_true k1
     have t2:decide (d≤D)=false:=decide_eq_false k2
     go_quiet ((go_at_call 92; exact Calls.quiet_of_same ((HD.out _).mono fun _ _ ⟨h1,h2⟩=>⟨h1,h2.symm⟩)))
     go_wp2
     go_returns
     exact ⟨by rw [HRB.out,t1,t2]; rfl,hU.drewN _⟩
 · have t1:decide (1≤d)=false:=decide_eq_false k1
   go_quiet ((go_at_call 92; exact Calls.quiet_of_same ((HD.out _).mono fun _ _ ⟨h1,h2⟩=>⟨h1,h2.symm⟩)))
   go_wp2
   go_returns
   exact ⟨by rw [HRB.out,t1]; rfl,hU.drewN _⟩
end Go.Proofs.YtfkcdnaghndgfaaGreatDoor
namespace Go.Proofs.YtfkcdnaghndgfaaGreatDoor
open Go.RowKit
structure RecD where
 p:ByteArray
 m:Int
 sum:Nat
 l:Int
 wh:Int
 k:Int
 md:Int
 t:Nat
 pos:Int
def RecD.cells (r:RecD):List Value:=[.string r.p,.int .i64 r.m,.int .u32 (r.sum:Nat),.int .i64 r.l,.int .i64 r.wh,.int .i64 r.k,.int .i64 r.md,.int .u32 (r.t:Nat),.int .i64 r.pos]
def RecD.v (r:RecD):Value := .agg #[.string r.p,.int .i64 r.m,.int .u32 (r.sum:Nat),.int .i64 r.l,.int .i64 r.wh,.int .i64 r.k,.int .i64 r.md,.int .u32 (r.t:Nat),.int .i64 r.pos]
structure RecD.Fits (r:RecD):Prop where
 p:r.p.size≤1000
 sum:r.sum<4294967296
 t:r.t<4294967296
def zJ (k:Int) (p:ByteArray):List Nat:=if k=2 then za p++[47] else za p
theorem jR (k:Int) (p:ByteArray) : ∀ x∈zJ k p,x<256:=by
 unfold zJ
 split
 · intro x hx; rcases List.mem_append.1 hx with h | h
   · exact zV p x h
   · simp at h; omega
 · exact zV p
theorem jB (k:Int) (p:ByteArray):(zJ k p).length≤p.size+1:=by
 unfold zJ
 split
 · simp [zc]
 · rw [zc]; omega
def ya (n:Int):Bool:=decide (0≤n)&&decide (n<2147483648)
def xK (r:RecD):Bool :=
 if (r.m≠0∧r.m≠8)∨ya r.l=false∨ya r.wh=false∨ya r.pos=false then false
 else if r.k=2 then decide (r.sum=0)&&decide (r.l=0)&&decide (r.wh=0)&&decide (r.m=0) else decide (r.m=8)||decide (r.l=r.wh)
def xk (k:Int) (t:Nat):Bool:=if k=2 then decide (t=2162688) else Zr t
def jL (r:RecD):Bool:=(zR (zJ r.k r.p)).2.2&&decide ((zR (zJ r.k r.p)).1=za r.p)&&decide (((zR (zJ r.k r.p)).2.1:Int)=r.k)
def yF (r:RecD):Nat:=if jL r=false then 5 else if xK r=false then 2 else if r.md<0∨511<r.md then 12 else if xk r.k r.t=false then 13 else 0
end Go.Proofs.YtfkcdnaghndgfaaGreatDoor
