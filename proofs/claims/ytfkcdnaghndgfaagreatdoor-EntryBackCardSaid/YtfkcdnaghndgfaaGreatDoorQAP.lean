/- Packages dos and swingleref12: the parts of a time: walks. -/
import Derived.Test.YtfkcdnaghndgfaaGreatDoorQAO
import Derived.Deep.RegionHeld3
import Derived.RowKit
set_option linter.unusedVariables false
set_option linter.unusedSimpArgs false
set_option linter.unusedSectionVars false
namespace Go.Proofs.YtfkcdnaghndgfaaGreatDoor
open Go.RowKit
def VK (t:Nat):List Value:=[.int .i64 (1980+(t:Int)/33554432%128),.int .i64 ((t:Int)/2097152%16),.int .i64 ((t:Int)/65536%32),.int .i64 ((t:Int)/2048%32),.int .i64 ((t:Int)/32%64),.int .i64 (2*((t:Int)%32))]
theorem ziv:(Tryz.prog.info? 111).map (·.size)=some 6:=by kernel_rfl
set_option maxRecDepth 100000 in
set_option maxHeartbeats 1600000 in
theorem za2 (t:Nat) (w:World) (ht:t<4294967296) :
 Calls Tryz.prog 72 #[.int .u32 (t:Nat)] w fun e w'=>e = .returned (.agg (VK t).toArray)∧Upd [] w w':=by
 go_enter Tryz.func72,Tryz.ntmps72
 go_upto_region 2 with fail
 have hT:=(Blk.new w [.int .u32 (t:Nat)] 22).alloc (Obj.cells #[.int .i64 0,.int .i64 0,.int .i64 0,.int .i64 0,.int .i64 0,.int .i64 0] 111)
 have hR:=Blk.new (w.alloc (Obj.cells #[.int .u32 (t:Nat)] 22)) [.int .i64 0,.int .i64 0,.int .i64 0,.int .i64 0,.int .i64 0,.int .i64 0] 111
 have hU:Upd [] w ((w.alloc (Obj.cells #[.int .u32 (t:Nat)] 22)).alloc (Obj.cells #[.int .i64 0,.int .i64 0,.int .i64 0,.int .i64 0,.int .i64 0,.int .i64 0] 111)):=((Upd.refl [] w).alloc _).alloc _
 rw [World.size_alloc] at hR
 change Code.wp _ _ _ _ ((w.alloc (Obj.cells #[.int .u32 (t:Nat)] 22)).alloc (Obj.cells #[.int .i64 0,.int .i64 0,.int .i64 0,.int .i64 0,.int .i64 0,.int .i64 0] 111))
 generalize (w.alloc (Obj.cells #[.int .u32 (t:Nat)] 22)).alloc (Obj.cells #[.int .i64 0,.int .i64 0,.int .i64 0,.int .i64 0,.int .i64 0,.int .i64 0] 111)=w2 at *
 have HC:=Lib.hid (hT.cell 0 rfl)
 have HR:=Lib.hid hR
 clear hT hR
 go_wp2_with fail
 refine (jo t 25 7 w.heap.size _ (by exact HC.out) ht (by omega) (by omega)).mono ?_
 rintro e w3 ⟨rfl,k0,rfl⟩
 go_wp2_with fail
 refine (jo t 21 4 w.heap.size _ (by exact HC.out) ht (by omega) (by omega)).mono ?_
 rintro e w3 ⟨rfl,k1,rfl⟩
 go_wp2_with fail
 refine (jo t 16 5 w.heap.size _ (by exact HC.out) ht (by omega) (by omega)).mono ?_
 rintro e w3 ⟨rfl,k2,rfl⟩
 go_wp2_with fail
 refine (jo t 11 5 w.heap.size _ (by exact HC.out) ht (by omega) (by omega)).mono ?_
 rintro e w3 ⟨rfl,k3,rfl⟩
 go_wp2_with fail
 refine (jo t 5 6 w.heap.size _ (by exact HC.out) ht (by omega) (by omega)).mono ?_
 rintro e w3 ⟨rfl,k4,rfl⟩
 go_wp2_with fail
 refine (jo t 0 5 w.heap.size _ (by exact HC.out) ht (by omega) (by omega)).mono ?_
 rintro e w3 ⟨rfl,k5,rfl⟩
 have rA:=HR.out.all
 have fA:=HR.out.frz
 go_wp2
 have hB:=(((((((HR.out.drewN (k0+k1+k2+k3+k4+k5)).set 0 (.int .i64 (1980+(t:Int)/33554432%128))).set 1 (.int .i64 ((t:Int)/2097152%16))).set 2 (.int .i64 ((t:Int)/65536%32))).set 3 (.int .i64 ((t:Int)/2048%32))).set 4 (.int .i64 ((t:Int)/32%64))).set 5 (.int .i64 (2*((t:Int)%32))))
 refine bodyPost_ret (v := .agg (VK t).toArray) (results_cell_row rfl _ _ (w.heap.size+1) 111 (VK t).toArray (0,0) _ (by simp) (hB) Tryz.underlying111 rfl (by rw [ziv]; rfl)) (by simp) ⟨rfl,?_⟩
 exact (((((((hU.drewN _).setCell (.inr (by simp)) _).setCell (.inr (by simp)) _).setCell (.inr (by simp)) _).setCell (.inr (by simp)) _).setCell (.inr (by simp)) _).setCell (.inr (by simp)) _)
theorem jh (a b:Int) (w:World):Calls Tryz.prog 116 #[.int .i64 a,.int .i64 b] w fun e w'=>e = .returned (.bool (decide (0≤a)&&decide (a<b)))∧w=w':=by
 by_cases h:0≤a
 · have t1:decide (0≤a)=true:=decide_eq_true h
   go_enter Tryz.func116,Tryz.ntmps116
   go_wp2
   go_returns
   exact ⟨by simp [t1],rfl⟩
 · have t1:decide (0≤a)=false:=decide_eq_false h
   go_enter Tryz.func116,Tryz.ntmps116
   go_wp2
   go_returns
   exact ⟨by simp [t1],rfl⟩
end Go.Proofs.YtfkcdnaghndgfaaGreatDoor
namespace Go.Proofs.YtfkcdnaghndgfaaGreatDoor
open Go.RowKit
def Yi (y:Int):Bool:=decide (y%4=0)&&decide (y≠2100)
def JA (y m:Int):Int:=if m<1∨12<m then 0 else if m=2 then (if Yi y=true then 29 else 28) else if m=4∨m=6∨m=9∨m=11 then 30 else 31
theorem zdX (y:Int) (w:World) (hy:1980≤y) (hy2:y≤2107):Calls Tryz.prog 148 #[.int .i64 y] w fun e w'=>e = .returned (.bool (Yi y))∧w=w':=by
 have h0:(0:Int)≤y:=by omega
 by_cases h:y%4=0
 · have t1:(y%4==0)=true:=by simp [h]
   have HB:=Lib.hid (show Yi y=(y != 2100) from by unfold Yi; rw [decide_eq_true h]; by_cases h2:y=2100<;>simp [h2])
   clear h
   go_enter Tryz.func148,Tryz.ntmps148
   go_wp2
   go_returns
   exact ⟨by rw [HB.out]; rfl,rfl⟩
 · have t1:(y%4==0)=false:=by simp [h]
   have HB:=Lib.hid (show Yi y=false from by unfold Yi; rw [decide_eq_false h]; rfl)
   clear h
   go_enter Tryz.func148,Tryz.ntmps148
   go_wp2
   go_returns
   exact ⟨by rw [HB.out]; rfl,rfl⟩
set_option maxRecDepth 100000 in
set_option maxHeartbeats 6400000 in
theorem zdE (y m:Int) (w:World) (hy:1980≤y) (hy2:y≤2107) (hm0:0≤m) (hm:m≤15):Calls Tryz.prog 117 #[.int .i64 y,.int .i64 m] w fun e w'=>e = .returned (.int .i64 (JA y m))∧Upd [] w w':=by
 have t1:decide (y<1980)=false:=decide_eq_false (by omega)
 have t2:decide (2107<y)=false:=decide_eq_false (by omega)
 have HL:=Lib.hid (fun w'=>zdX y w' hy hy2)
 by_cases h2:m=2
 · subst h2
   cases hb:Yi y with
   | true =>
     have HB:=Lib.hid (show JA y 2=29 from by unfold JA; rw [hb]; rfl)
     rw [hb] at HL
     go_enter Tryz.func117,Tryz.ntmps117
     go_wp2_with fail
     refine (HL.out _).mono ?_
     rintro e w1 ⟨rfl,rfl⟩
     go_wp2
     go_returns
     exact ⟨by rw [HB.out]; rfl,(Upd.refl _ _).alloc _⟩
   | false =>
     have HB:=Lib.hid (show JA y 2=28 from by unfold JA; rw [hb]; rfl)
     rw [hb] at HL
     go_enter Tryz.func117,Tryz.ntmps117
     go_wp2_with fail
     refine (HL.out _).mono ?_
     rintro e w1 ⟨rfl,rfl⟩
     go_wp2
     go_returns
     exact ⟨by rw [HB.out]; rfl,(Upd.refl _ _).alloc _⟩
 · clear HL
   rcases (by omega:m=0∨m=1∨m=2∨m=3∨m=4∨m=5∨m=6∨m=7∨m=8∨m=9∨m=10∨m=11∨m=12∨m=13∨m=14∨m=15) with rfl | rfl | rfl | rfl | rfl | rfl | rfl | rfl | rfl | rfl | rfl | rfl | rfl | rfl | rfl | rfl
   all_goals first
    | (exact absurd rfl h2)
    | (clear h2
       go_enter Tryz.func117,Tryz.ntmps117
       go_wp2
       go_returns
       first | exact ⟨rfl,(Upd.refl _ _).alloc _⟩ | exact ⟨rfl,.refl _ _⟩)
end Go.Proofs.YtfkcdnaghndgfaaGreatDoor
namespace Go.Proofs.YtfkcdnaghndgfaaGreatDoor
theorem XA {P:Program} {md:Region.Mode} {ops:Array Oper} {Q:Exit→Act→World→Prop} {S:World→Prop} {i:Nat} {oi:Oper} {d:Option Tmp} {v:Value} {fuel:Nat} {listed:Array Bool} {a:Act} {w:World} (hi:ops[i]? =some oi) (hd:oi.dst=d)
 (hs:Region.noSelect ops=true) (hf:Region.free md ops listed i=true) (hr:(Region.ready md ops listed).contains i=true)
 (hQ : ∀ c a w,Q (.panic c) (a.put d v) w→Q (.panic c) a w) (hw:Region.wanted oi (yielded ops a.tmps)=true) (hy : ∀ w,S w→(execOp a.eval oi).run P w = .ok (.value v) w) (hS:S w)
 (h:wpAnyH P md ops Q S fuel (listed.setIfInBounds i true) (a.put d v) w):wpAnyH P md ops Q S (fuel+1) listed a w:=by
 subst hd
 exact wpAnyH_take hi hs hf hr hQ (Or.inl ⟨hw,hy⟩) hS h
theorem zfn {P:Program} {md:Region.Mode} {ops:Array Oper} {Q:Exit→Act→World→Prop} {S:World→Prop} {i:Nat} {oi:Oper} {d:Option Tmp} {fuel:Nat} {listed:Array Bool} {a:Act} {w:World} (hi:ops[i]? =some oi) (hd:oi.dst=d)
 (hs:Region.noSelect ops=true) (hf:Region.free md ops listed i=true) (hr:(Region.ready md ops listed).contains i=true)
 (hQ : ∀ c a w,Q (.panic c) (a.put d undef) w→Q (.panic c) a w) (hw:Region.wanted oi (yielded ops a.tmps)=false) (hS:S w)
 (h:wpAnyH P md ops Q S fuel (listed.setIfInBounds i true) (a.put d undef) w):wpAnyH P md ops Q S (fuel+1) listed a w:=by
 subst hd
 exact wpAnyH_take hi hs hf hr hQ (Or.inr ⟨hw,rfl⟩) hS h
end Go.Proofs.YtfkcdnaghndgfaaGreatDoor
namespace Go.Proofs.YtfkcdnaghndgfaaGreatDoor
open Go.RowKit
theorem hdT {P:Program} {md:Region.Mode} {ops:Array Oper} {Q:Exit→Act→World→Prop} {S:World→Prop} {oi:Oper} {v:Value} {fuel:Nat} {listed:Array Bool} {a:Act} {w:World} {G:Prop} (i:Nat) (d:Option Tmp) (h:G)
 (hi:ops[i]? =some oi:=by rfl) (hd:oi.dst=d:=by rfl)
 (hy : ∀ w,S w→(execOp a.eval oi).run P w = .ok (.value v) w:=by intro w hSw; (try dsimp only at hSw); go_simp; try with_reducible rfl)
 (hs:Region.noSelect ops=true:=by kernel_rfl) (hf:Region.free md ops listed i=true:=by kernel_rfl) (hr:(Region.ready md ops listed).contains i=true:=by kernel_rfl)
 (hQ : ∀ c a w,Q (.panic c) (a.put d v) w→Q (.panic c) a w:=by exact fun _ _ _ h=>h) (hw:Region.wanted oi (yielded ops a.tmps)=true:=by rfl) (hS:S w:=by assumption)
 (hn:wpAnyH P md ops Q S fuel (listed.setIfInBounds i true) (a.put d v) w=G:=by (try simp only [Act.put,List.setIfInBounds_toArray,List.set_cons_zero,List.set_cons_succ]); exact rfl):wpAnyH P md ops Q S (fuel+1) listed a w :=
 XA hi hd hs hf hr hQ hw hy hS (hn▸h)
theorem hdK {P:Program} {md:Region.Mode} {ops:Array Oper} {Q:Exit→Act→World→Prop} {S:World→Prop} {oi:Oper} {fuel:Nat} {listed:Array Bool} {a:Act} {w:World} {G:Prop} (i:Nat) (d:Option Tmp) (h:G)
 (hi:ops[i]? =some oi:=by rfl) (hd:oi.dst=d:=by rfl)
 (hs:Region.noSelect ops=true:=by kernel_rfl) (hf:Region.free md ops listed i=true:=by kernel_rfl) (hr:(Region.ready md ops listed).contains i=true:=by kernel_rfl)
 (hQ : ∀ c a w,Q (.panic c) (a.put d undef) w→Q (.panic c) a w:=by exact fun _ _ _ h=>h) (hw:Region.wanted oi (yielded ops a.tmps)=false:=by rfl) (hS:S w:=by assumption)
 (hn:wpAnyH P md ops Q S fuel (listed.setIfInBounds i true) (a.put d undef) w=G:=by (try simp only [Act.put,List.setIfInBounds_toArray,List.set_cons_zero,List.set_cons_succ]); exact rfl):wpAnyH P md ops Q S (fuel+1) listed a w :=
 zfn hi hd hs hf hr hQ hw hS (hn▸h)
theorem hdN {X G:Prop} (h:G) (hn:X=G:=by (try simp only [Act.put,List.setIfInBounds_toArray,List.set_cons_zero,List.set_cons_succ]); exact rfl):X:=hn▸h
theorem hdO {P:Program} {md:Region.Mode} {ops:Array Oper} {Q:Exit→Act→World→Prop} {S:World→Prop} {o:Oper} {fuel:Nat} {listed:Array Bool} {a:Act} {w:World} (i:Nat)
 (h : ∀ K':Act→World→Prop,Shut (∀ a w,S w→(S w→wpAnyH P md ops Q S fuel (listed.setIfInBounds i true) a w)→K' a w)→if Region.wanted o (yielded ops a.tmps)=true then Oper.wp P o a w K' Q else K' (a.put o.dst undef) w)
 (ho:ops[i]? =some o:=by rfl) (hr:Region.ready md ops listed=[i]:=by kernel_rfl):wpAnyH P md ops Q S (fuel+1) listed a w :=
 wpAnyH_ready hr (by simp) (AllReadyH.cons ho h AllReadyH.nil)
end Go.Proofs.YtfkcdnaghndgfaaGreatDoor
namespace Go.Proofs.YtfkcdnaghndgfaaGreatDoor
open Go.RowKit
def vz (y m:Int):Int:=if y<1980∨2107<y then 0 else JA y m
set_option maxRecDepth 100000 in
theorem zeG (y m:Int) (w:World):Calls Tryz.prog 117 #[.int .i64 y,.int .i64 m] w fun e w'=>e = .returned (.int .i64 (vz y m))∧Upd [] w w':=by
 by_cases h1:y<1980
 · have HV:Hid (vz y m=0):=Lib.hid (if_pos (.inl h1))
   go_enter Tryz.func117,Tryz.ntmps117
   go_wp2
   go_returns
   exact ⟨by rw [HV.out]; rfl,.refl _ _⟩
 by_cases h2:2107<y
 · have HV:Hid (vz y m=0):=Lib.hid (if_pos (.inr h2))
   go_enter Tryz.func117,Tryz.ntmps117
   go_wp2
   go_returns
   exact ⟨by rw [HV.out]; rfl,.refl _ _⟩
 by_cases h3:m<1
 · have HV:Hid (vz y m=0):=Lib.hid (by unfold vz JA; rw [if_neg (by omega),if_pos (.inl h3)])
   go_enter Tryz.func117,Tryz.ntmps117
   go_wp2
   go_returns
   exact ⟨by rw [HV.out]; rfl,.refl _ _⟩
 by_cases h4:12<m
 · have HV:Hid (vz y m=0):=Lib.hid (by unfold vz JA; rw [if_neg (by omega),if_pos (.inr h4)])
   go_enter Tryz.func117,Tryz.ntmps117
   go_wp2
   go_returns
   exact ⟨by rw [HV.out]; rfl,.refl _ _⟩
 · have:=zdE y m w (by omega) (by omega) (by omega) (by omega)
   unfold vz
   rw [if_neg (by omega)]
   exact this
def XJ (y m d h mi s:Int):Bool:=decide (1≤d)&&decide (d≤vz y m)&&(decide (0≤h)&&decide (h<24))&&(decide (0≤mi)&&decide (mi<60))&&(decide (0≤s)&&decide (s<60))&&decide (s%2=0)
set_option maxRecDepth 100000 in
set_option maxHeartbeats 6400000 in
theorem za5 (y m d h mi s:Int) (w:World) :
 Calls Tryz.prog 73 #[.agg #[.int .i64 y,.int .i64 m,.int .i64 d,.int .i64 h,.int .i64 mi,.int .i64 s]] w fun e w'=>e = .returned (.bool (XJ y m d h mi s))∧Upd [] w w':=by
 have HD:=Lib.hid (fun w'=>zeG y m w')
 have HRB:=Lib.hid (show XJ y m d h mi s=(decide (1≤d)&&decide (d≤vz y m)&&(decide (0≤h)&&decide (h<24))&&(decide (0≤mi)&&decide (mi<60))&&(decide (0≤s)&&decide (s<60))&&decide (s%2=0)) from rfl)
 generalize XJ y m d h mi s=B at *
 generalize vz y m=D at *
 go_enter Tryz.func73,Tryz.ntmps73
 go_upto_region 2 with fail
 have hB:=Blk.new w [.int .i64 y,.int .i64 m,.int .i64 d,.int .i64 h,.int .i64 mi,.int .i64 s] 111
 have hU:Upd [] w (w.alloc (.cells #[.int .i64 y,.int .i64 m,.int .i64 d,.int .i64 h,.int .i64 mi,.int .i64 s] 111)):=(Upd.refl [] w).alloc _
 change Code.wp _ _ _ _ (w.alloc (.cells #[.int .i64 y,.int .i64 m,.int .i64 d,.int .i64 h,.int .i64 mi,.int .i64 s] 111))
 generalize w.alloc (.cells #[.int .i64 y,.int .i64 m,.int .i64 d,.int .i64 h,.int .i64 mi,.int .i64 s] 111)=w1 at *
 generalize hb:w.heap.size=b at *
 have HW:=Lib.hid hb
 clear hb
 have c0:=hB.cell 0 rfl
 have c1:=hB.cell 1 rfl
 have c2:=hB.cell 2 rfl
 have c3:=hB.cell 3 rfl
 have c4:=hB.cell 4 rfl
 have c5:=hB.cell 5 rfl
 cases t1:decide (1≤d) with
 | true =>
   cases t2:decide (d≤D) with
   | true =>
     cases t3:(decide (0≤h)&&decide (h<24)) with
     | true =>
       cases t4:(decide (0≤mi)&&decide (mi<60)) with
       | true =>
         cases t5:(decide (0≤s)&&decide (s<60)) with
         | true =>
           have I2:=Lib.hid (fun w'=>show Calls Tryz.prog 116 #[.int .i64 h,.int .i64 24] w' fun e w2=>e = .returned (.bool true)∧w'=w2 from by have h:=jh h 24 w'; rw [t3] at h; exact h)
           have I3:=Lib.hid (fun w'=>show Calls Tryz.prog 116 #[.int .i64 mi,.int .i64 60] w' fun e w2=>e = .returned (.bool true)∧w'=w2 from by have h:=jh mi 60 w'; rw [t4] at h; exact h)
           have I4:=Lib.hid (fun w'=>show Calls Tryz.prog 116 #[.int .i64 s,.int .i64 60] w' fun e w2=>e = .returned (.bool true)∧w'=w2 from by have h:=jh s 60 w'; rw [t5] at h; exact h)
           have T3:=Lib.hid t3
           have T4:=Lib.hid t4
           have T5:=Lib.hid t5
           clear t3 t4 t5
           have hs0:0≤s:=by have:=T5.out; simp at this; omega
           refine wp_region_held_drew (S:=fun w'=>w'.cell? ⟨b,0,none⟩=some (.int .i64 y)∧w'.cell? ⟨b,1,none⟩=some (.int .i64 m)∧w'.cell? ⟨b,2,none⟩=some (.int .i64 d)∧w'.cell? ⟨b,3,none⟩=some (.int .i64 h)∧w'.cell? ⟨b,4,none⟩=some (.int .i64 mi)∧w'.cell? ⟨b,5,none⟩=some (.int .i64 s)) (by kernel_rfl) ⟨c0,c1,c2,c3,c4,c5⟩ (fun hHeld=>hdN ?_)
           refine hdT 0 (some 4) ?_; refine hdT 1 (some 5) ?_; refine hdT 2 (some 6) ?_; refine hdT 3 (some 7) ?_; refine hdT 4 (some 8) ?_
           refine hdT 5 (some 9) ?_; refine hdT 6 (some 10) ?_; refine hdT 7 (some 11) ?_; refine hdT 8 (some 12) ?_; refine hdT 9 (some 13) ?_
           refine hdO 10 (fun K hK=>?_)
           go_simp
           go_at_call 117
           refine (HD.out _).mono ?_
           rintro e w2 ⟨rfl,hU2⟩
           have hB2:Blk w2 b _ _:=(hU2.block b hB.lt (by simp)).trans hB
           have hS:w2.cell? ⟨b,0,none⟩=some (.int .i64 y)∧w2.cell? ⟨b,1,none⟩=some (.int .i64 m)∧w2.cell? ⟨b,2,none⟩=some (.int .i64 d)∧w2.cell? ⟨b,3,none⟩=some (.int .i64 h)∧w2.cell? ⟨b,4,none⟩=some (.int .i64 mi)∧w2.cell? ⟨b,5,none⟩=some (.int .i64 s):=⟨hB2.cell 0 rfl,hB2.cell 1 rfl,hB2.cell 2 rfl,hB2.cell 3 rfl,hB2.cell 4 rfl,hB2.cell 5 rfl⟩
           go_wp2
           refine hK.out _ _ hS (fun hHeld=>hdN ?_)
           clear hK K
           refine hdT 11 (some 15) ?_; refine hdT 12 (some 16) ?_; refine hdT 13 (some 17) ?_; refine hdT 14 (some 18) ?_; refine hdT 15 (some 19) ?_
           refine hdT 16 (some 20) ?_
           refine hdO 17 (fun K hK=>?_)
           go_simp
           go_at_call 116
           refine (I2.out _).mono ?_
           rintro e w3 ⟨rfl,rfl⟩
           go_wp2
           refine hK.out _ _ hS (fun hHeld=>hdN ?_)
           clear hK K
           refine hdT 18 (some 22) ?_; refine hdT 19 (some 23) ?_; refine hdT 20 (some 24) ?_; refine hdT 21 (some 25) ?_; refine hdT 22 (some 26) ?_
           refine hdO 23 (fun K hK=>?_)
           go_simp
           go_at_call 116
           refine (I3.out _).mono ?_
           rintro e w3 ⟨rfl,rfl⟩
           go_wp2
           refine hK.out _ _ hS (fun hHeld=>hdN ?_)
           clear hK K
           refine hdT 24 (some 28) ?_; refine hdT 25 (some 29) ?_; refine hdT 26 (some 30) ?_; refine hdT 27 (some 31) ?_; refine hdT 28 (some 32) ?_
           refine hdO 29 (fun K hK=>?_)
           go_simp
           go_at_call 116
           refine (I4.out _).mono ?_
           rintro e w3 ⟨rfl,rfl⟩
           go_wp2
           refine hK.out _ _ hS (fun hHeld=>hdN ?_)
           clear hK K
           refine hdT 30 (some 34) ?_; refine hdT 31 (some 35) ?_; refine hdT 32 (some 36) ?_; refine hdT 33 (some 37) ?_; refine hdT 34 (some 38) ?_
           refine hdT 35 (some 39) ?_; refine hdT 36 (some 40) ?_; refine hdT 37 (some 2) ?_
           refine wpAnyH_done (by kernel_rfl) ?_ 0
           go_wp2
           go_returns
           exact ⟨by rw [HRB.out,t1,t2,T3.out,T4.out,T5.out]; show Ending.returned (.bool (s.tmod 2==0))=_; rw [Int.tmod_eq_emod_of_nonneg hs0]; by_cases e:s%2=0<;>simp [e],(hU.drew.then hU2)⟩
         | false =>
           have I2:=Lib.hid (fun w'=>show Calls Tryz.prog 116 #[.int .i64 h,.int .i64 24] w' fun e w2=>e = .returned (.bool true)∧w'=w2 from by have h:=jh h 24 w'; rw [t3] at h; exact h)
           have I3:=Lib.hid (fun w'=>show Calls Tryz.prog 116 #[.int .i64 mi,.int .i64 60] w' fun e w2=>e = .returned (.bool true)∧w'=w2 from by have h:=jh mi 60 w'; rw [t4] at h; exact h)
           have I4:=Lib.hid (fun w'=>show Calls Tryz.prog 116 #[.int .i64 s,.int .i64 60] w' fun e w2=>e = .returned (.bool false)∧w'=w2 from by have h:=jh s 60 w'; rw [t5] at h; exact h)
           have T3:=Lib.hid t3
           have T4:=Lib.hid t4
           have T5:=Lib.hid t5
           clear t3 t4 t5
           refine wp_region_held_drew (S:=fun w'=>w'.cell? ⟨b,0,none⟩=some (.int .i64 y)∧w'.cell? ⟨b,1,none⟩=some (.int .i64 m)∧w'.cell? ⟨b,2,none⟩=some (.int .i64 d)∧w'.cell? ⟨b,3,none⟩=some (.int .i64 h)∧w'.cell? ⟨b,4,none⟩=some (.int .i64 mi)∧w'.cell? ⟨b,5,none⟩=some (.int .i64 s)) (by kernel_rfl) ⟨c0,c1,c2,c3,c4,c5⟩ (fun hHeld=>hdN ?_)
           refine hdT 0 (some 4) ?_; refine hdT 1 (some 5) ?_; refine hdT 2 (some 6) ?_; refine hdT 3 (some 7) ?_; refine hdT 4 (some 8) ?_
           refine hdT 5 (some 9) ?_; refine hdT 6 (some 10) ?_; refine hdT 7 (some 11) ?_; refine hdT 8 (some 12) ?_; refine hdT 9 (some 13) ?_
           refine hdO 10 (fun K hK=>?_)
           go_simp
           go_at_call 117
           refine (HD.out _).mono ?_
           rintro e w2 ⟨rfl,hU2⟩
           have hB2:Blk w2 b _ _:=(hU2.block b hB.lt (by simp)).trans hB
           have hS:w2.cell? ⟨b,0,none⟩=some (.int .i64 y)∧w2.cell? ⟨b,1,none⟩=some (.int .i64 m)∧w2.cell? ⟨b,2,none⟩=some (.int .i64 d)∧w2.cell? ⟨b,3,none⟩=some (.int .i64 h)∧w2.cell? ⟨b,4,none⟩=some (.int .i64 mi)∧w2.cell? ⟨b,5,none⟩=some (.int .i64 s):=⟨hB2.cell 0 rfl,hB2.cell 1 rfl,hB2.cell 2 rfl,hB2.cell 3 rfl,hB2.cell 4 rfl,hB2.cell 5 rfl⟩
           go_wp2
           refine hK.out _ _ hS (fun hHeld=>hdN ?_)
           clear hK K
           refine hdT 11 (some 15) ?_; refine hdT 12 (some 16) ?_; refine hdT 13 (some 17) ?_; refine hdT 14 (some 18) ?_; refine hdT 15 (some 19) ?_
           refine hdT 16 (some 20) ?_
           refine hdO 17 (fun K hK=>?_)
           go_simp
           go_at_call 116
           refine (I2.out _).mono ?_
           rintro e w3 ⟨rfl,rfl⟩
           go_wp2
           refine hK.out _ _ hS (fun hHeld=>hdN ?_)
           clear hK K
           refine hdT 18 (some 22) ?_; refine hdT 19 (some 23) ?_; refine hdT 20 (some 24) ?_; refine hdT 21 (some 25) ?_; refine hdT 22 (some 26) ?_
           refine hdO 23 (fun K hK=>?_)
           go_simp
           go_at_call 116
           refine (I3.out _).mono ?_
           rintro e w3 ⟨rfl,rfl⟩
           go_wp2
           refine hK.out _ _ hS (fun hHeld=>hdN ?_)
           clear hK K
           refine hdT 24 (some 28) ?_; refine hdT 25 (some 29) ?_; refine hdT 26 (some 30) ?_; refine hdT 27 (some 31) ?_; refine hdT 28 (some 32) ?_
           refine hdO 29 (fun K hK=>?_)
           go_simp
           go_at_call 116
           refine (I4.out _).mono ?_
           rintro e w3 ⟨rfl,rfl⟩
           go_wp2
           refine hK.out _ _ hS (fun hHeld=>hdN ?_)
           clear hK K
           refine hdT 30 (some 34) ?_; refine hdT 31 (some 35) ?_; refine hdK 32 (some 36) ?_; refine hdK 33 (some 37) ?_; refine hdK 34 (some 38) ?_
           refine hdK 35 (some 39) ?_; refine hdT 36 (some 40) ?_; refine hdT 37 (some 2) ?_
           refine wpAnyH_done (by kernel_rfl) ?_ 0
           go_wp2
           go_returns
           exact ⟨by rw [HRB.out,t1,t2,T3.out,T4.out,T5.out]; rfl,(hU.drew.then hU2)⟩
       | false =>
         have I2:=Lib.hid (fun w'=>show Calls Tryz.prog 116 #[.int .i64 h,.int .i64 24] w' fun e w2=>e = .returned (.bool true)∧w'=w2 from by have h:=jh h 24 w'; rw [t3] at h; exact h)
         have I3:=Lib.hid (fun w'=>show Calls Tryz.prog 116 #[.int .i64 mi,.int .i64 60] w' fun e w2=>e = .returned (.bool false)∧w'=w2 from by have h:=jh mi 60 w'; rw [t4] at h; exact h)
         have T3:=Lib.hid t3
         have T4:=Lib.hid t4
         clear t3 t4
         refine wp_region_held_drew (S:=fun w'=>w'.cell? ⟨b,0,none⟩=some (.int .i64 y)∧w'.cell? ⟨b,1,none⟩=some (.int .i64 m)∧w'.cell? ⟨b,2,none⟩=some (.int .i64 d)∧w'.cell? ⟨b,3,none⟩=some (.int .i64 h)∧w'.cell? ⟨b,4,none⟩=some (.int .i64 mi)∧w'.cell? ⟨b,5,none⟩=some (.int .i64 s)) (by kernel_rfl) ⟨c0,c1,c2,c3,c4,c5⟩ (fun hHeld=>hdN ?_)
         refine hdT 0 (some 4) ?_; refine hdT 1 (some 5) ?_; refine hdT 2 (some 6) ?_; refine hdT 3 (some 7) ?_; refine hdT 4 (some 8) ?_
         refine hdT 5 (some 9) ?_; refine hdT 6 (some 10) ?_; refine hdT 7 (some 11) ?_; refine hdT 8 (some 12) ?_; refine hdT 9 (some 13) ?_
         refine hdO 10 (fun K hK=>?_)
         go_simp
         go_at_call 117
         refine (HD.out _).mono ?_
         rintro e w2 ⟨rfl,hU2⟩
         have hB2:Blk w2 b _ _:=(hU2.block b hB.lt (by simp)).trans hB
         have hS:w2.cell? ⟨b,0,none⟩=some (.int .i64 y)∧w2.cell? ⟨b,1,none⟩=some (.int .i64 m)∧w2.cell? ⟨b,2,none⟩=some (.int .i64 d)∧w2.cell? ⟨b,3,none⟩=some (.int .i64 h)∧w2.cell? ⟨b,4,none⟩=some (.int .i64 mi)∧w2.cell? ⟨b,5,none⟩=some (.int .i64 s):=⟨hB2.cell 0 rfl,hB2.cell 1 rfl,hB2.cell 2 rfl,hB2.cell 3 rfl,hB2.cell 4 rfl,hB2.cell 5 rfl⟩
         go_wp2
         refine hK.out _ _ hS (fun hHeld=>hdN ?_)
         clear hK K
         refine hdT 11 (some 15) ?_; refine hdT 12 (some 16) ?_; refine hdT 13 (some 17) ?_; refine hdT 14 (some 18) ?_; refine hdT 15 (some 19) ?_
         refine hdT 16 (some 20) ?_
         refine hdO 17 (fun K hK=>?_)
         go_simp
         go_at_call 116
         refine (I2.out _).mono ?_
         rintro e w3 ⟨rfl,rfl⟩
         go_wp2
         refine hK.out _ _ hS (fun hHeld=>hdN ?_)
         clear hK K
         refine hdT 18 (some 22) ?_; refine hdT 19 (some 23) ?_; refine hdT 20 (some 24) ?_; refine hdT 21 (some 25) ?_; refine hdT 22 (some 26) ?_
         refine hdO 23 (fun K hK=>?_)
         go_simp
         go_at_call 116
         refine (I3.out _).mono ?_
         rintro e w3 ⟨rfl,rfl⟩
         go_wp2
         refine hK.out _ _ hS (fun hHeld=>hdN ?_)
         clear hK K
         refine hdT 24 (some 28) ?_; refine hdT 25 (some 29) ?_; refine hdK 26 (some 30) ?_; refine hdK 27 (some 31) ?_; refine hdK 28 (some 32) ?_
         refine hdK 29 (some 33) ?_; refine hdT 30 (some 34) ?_; refine hdT 31 (some 35) ?_; refine hdK 32 (some 36) ?_; refine hdK 33 (some 37) ?_
         refine hdK 34 (some 38) ?_; refine hdK 35 (some 39) ?_; refine hdT 36 (some 40) ?_; refine hdT 37 (some 2) ?_
         refine wpAnyH_done (by kernel_rfl) ?_ 0
         go_wp2
         go_returns
         exact ⟨by rw [HRB.out,t1,t2,T3.out,T4.out]; rfl,(hU.drew.then hU2)⟩
     | false =>
       have I2:=Lib.hid (fun w'=>show Calls Tryz.prog 116 #[.int .i64 h,.int .i64 24] w' fun e w2=>e = .returned (.bool false)∧w'=w2 from by have h:=jh h 24 w'; rw [t3] at h; exact h)
       have T3:=Lib.hid t3
       clear t3
       refine wp_region_held_drew (S:=fun w'=>w'.cell? ⟨b,0,none⟩=some (.int .i64 y)∧w'.cell? ⟨b,1,none⟩=some (.int .i64 m)∧w'.cell? ⟨b,2,none⟩=some (.int .i64 d)∧w'.cell? ⟨b,3,none⟩=some (.int .i64 h)∧w'.cell? ⟨b,4,none⟩=some (.int .i64 mi)∧w'.cell? ⟨b,5,none⟩=some (.int .i64 s)) (by kernel_rfl) ⟨c0,c1,c2,c3,c4,c5⟩ (fun hHeld=>hdN ?_)
       refine hdT 0 (some 4) ?_; refine hdT 1 (some 5) ?_; refine hdT 2 (some 6) ?_; refine hdT 3 (some 7) ?_; refine hdT 4 (some 8) ?_
       refine hdT 5 (some 9) ?_; refine hdT 6 (some 10) ?_; refine hdT 7 (some 11) ?_; refine hdT 8 (some 12) ?_; refine hdT 9 (some 13) ?_
       refine hdO 10 (fun K hK=>?_)
       go_simp
       go_at_call 117
       refine (HD.out _).mono ?_
       rintro e w2 ⟨rfl,hU2⟩
       have hB2:Blk w2 b _ _:=(hU2.block b hB.lt (by simp)).trans hB
       have hS:w2.cell? ⟨b,0,none⟩=some (.int .i64 y)∧w2.cell? ⟨b,1,none⟩=some (.int .i64 m)∧w2.cell? ⟨b,2,none⟩=some (.int .i64 d)∧w2.cell? ⟨b,3,none⟩=some (.int .i64 h)∧w2.cell? ⟨b,4,none⟩=some (.int .i64 mi)∧w2.cell? ⟨b,5,none⟩=some (.int .i64 s):=⟨hB2.cell 0 rfl,hB2.cell 1 rfl,hB2.cell 2 rfl,hB2.cell 3 rfl,hB2.cell 4 rfl,hB2.cell 5 rfl⟩
       go_wp2
       refine hK.out _ _ hS (fun hHeld=>hdN ?_)
       clear hK K
       refine hdT 11 (some 15) ?_; refine hdT 12 (some 16) ?_; refine hdT 13 (some 17) ?_; refine hdT 14 (some 18) ?_; refine hdT 15 (some 19) ?_
       refine hdT 16 (some 20) ?_
       refine hdO 17 (fun K hK=>?_)
       go_simp
       go_at_call 116
       refine (I2.out _).mono ?_
       rintro e w3 ⟨rfl,rfl⟩
       go_wp2
       refine hK.out _ _ hS (fun hHeld=>hdN ?_)
       clear hK K
       refine hdT 18 (some 22) ?_; refine hdT 19 (some 23) ?_; refine hdK 20 (some 24) ?_; refine hdK 21 (some 25) ?_; refine hdK 22 (some 26) ?_
       refine hdK 23 (some 27) ?_; refine hdT 24 (some 28) ?_; refine hdT 25 (some 29) ?_; refine hdK 26 (some 30) ?_; refine hdK 27 (some 31) ?_
       refine hdK 28 (some 32) ?_; refine hdK 29 (some 33) ?_; refine hdT 30 (some 34) ?_; refine hdT 31 (some 35) ?_; refine hdK 32 (some 36) ?_
       refine hdK 33 (some 37) ?_; refine hdK 34 (some 38) ?_; refine hdK 35 (some 39) ?_; refine hdT 36 (some 40) ?_; refine hdT 37 (some 2) ?_
       refine wpAnyH_done (by kernel_rfl) ?_ 0
       go_wp2
       go_returns
       exact ⟨by rw [HRB.out,t1,t2,T3.out]; rfl,(hU.drew.then hU2)⟩
   | false =>
     refine wp_region_held_drew (S:=fun w'=>w'.cell? ⟨b,0,none⟩=some (.int .i64 y)∧w'.cell? ⟨b,1,none⟩=some (.int .i64 m)∧w'.cell? ⟨b,2,none⟩=some (.int .i64 d)∧w'.cell? ⟨b,3,none⟩=some (.int .i64 h)∧w'.cell? ⟨b,4,none⟩=some (.int .i64 mi)∧w'.cell? ⟨b,5,none⟩=some (.int .i64 s)) (by kernel_rfl) ⟨c0,c1,c2,c3,c4,c5⟩ (fun hHeld=>hdN ?_)
     refine hdT 0 (some 4) ?_; refine hdT 1 (some 5) ?_; refine hdT 2 (some 6) ?_; refine hdT 3 (some 7) ?_; refine hdT 4 (some 8) ?_
     refine hdT 5 (some 9) ?_; refine hdT 6 (some 10) ?_; refine hdT 7 (some 11) ?_; refine hdT 8 (some 12) ?_; refine hdT 9 (some 13) ?_
     refine hdO 10 (fun K hK=>?_)
     go_simp
     go_at_call 117
     refine (HD.out _).mono ?_
     rintro e w2 ⟨rfl,hU2⟩
     have hB2:Blk w2 b _ _:=(hU2.block b hB.lt (by simp)).trans hB
     have hS:w2.cell? ⟨b,0,none⟩=some (.int .i64 y)∧w2.cell? ⟨b,1,none⟩=some (.int .i64 m)∧w2.cell? ⟨b,2,none⟩=some (.int .i64 d)∧w2.cell? ⟨b,3,none⟩=some (.int .i64 h)∧w2.cell? ⟨b,4,none⟩=some (.int .i64 mi)∧w2.cell? ⟨b,5,none⟩=some (.int .i64 s):=⟨hB2.cell 0 rfl,hB2.cell 1 rfl,hB2.cell 2 rfl,hB2.cell 3 rfl,hB2.cell 4 rfl,hB2.cell 5 rfl⟩
     go_wp2
     refine hK.out _ _ hS (fun hHeld=>hdN ?_)
     clear hK K
     refine hdT 11 (some 15) ?_; refine hdT 12 (some 16) ?_; refine hdT 13 (some 17) ?_; refine hdK 14 (some 18) ?_; refine hdK 15 (some 19) ?_
     refine hdK 16 (some 20) ?_; refine hdK 17 (some 21) ?_; refine hdT 18 (some 22) ?_; refine hdT 19 (some 23) ?_; refine hdK 20 (some 24) ?_
     refine hdK 21 (some 25) ?_; refine hdK 22 (some 26) ?_; refine hdK 23 (some 27) ?_; refine hdT 24 (some 28) ?_; refine hdT 25 (some 29) ?_
     refine hdK 26 (some 30) ?_; refine hdK 27 (some 31) ?_; refine hdK 28 (some 32) ?_; refine hdK 29 (some 33) ?_; refine hdT 30 (some 34) ?_
     refine hdT 31 (some 35) ?_; refine hdK 32 (some 36) ?_; refine hdK 33 (some 37) ?_; refine hdK 34 (some 38) ?_; refine hdK 35 (some 39) ?_
     refine hdT 36 (some 40) ?_; refine hdT 37 (some 2) ?_
     refine wpAnyH_done (by kernel_rfl) ?_ 0
     go_wp2
     go_returns
     exact ⟨by rw [HRB.out,t1,t2]; rfl,(hU.drew.then hU2)⟩
 | false =>
   refine wp_region_held_drew (S:=fun w'=>w'.cell? ⟨b,0,none⟩=some (.int .i64 y)∧w'.cell? ⟨b,1,none⟩=some (.int .i64 m)∧w'.cell? ⟨b,2,none⟩=some (.int .i64 d)∧w'.cell? ⟨b,3,none⟩=some (.int .i64 h)∧w'.cell? ⟨b,4,none⟩=some (.int .i64 mi)∧w'.cell? ⟨b,5,none⟩=some (.int .i64 s)) (by kernel_rfl) ⟨c0,c1,c2,c3,c4,c5⟩ (fun hHeld=>hdN ?_)
   refine hdT 0 (some 4) ?_; refine hdT 1 (some 5) ?_; refine hdT 2 (some 6) ?_; refine hdT 3 (some 7) ?_; refine hdK 4 (some 8) ?_
   refine hdK 5 (some 9) ?_; refine hdK 6 (some 10) ?_; refine hdK 7 (some 11) ?_; refine hdK 8 (some 12) ?_; refine hdK 9 (some 13) ?_
   refine hdK 10 (some 14) ?_; refine hdK 11 (some 15) ?_; refine hdT 12 (some 16) ?_; refine hdT 13 (some 17) ?_; refine hdK 14 (some 18) ?_
   refine hdK 15 (some 19) ?_; refine hdK 16 (some 20) ?_; refine hdK 17 (some 21) ?_; refine hdT 18 (some 22) ?_; refine hdT 19 (some 23) ?_
   refine hdK 20 (some 24) ?_; refine hdK 21 (some 25) ?_; refine hdK 22 (some 26) ?_; refine hdK 23 (some 27) ?_; refine hdT 24 (some 28) ?_
   refine hdT 25 (some 29) ?_; refine hdK 26 (some 30) ?_; refine hdK 27 (some 31) ?_; refine hdK 28 (some 32) ?_; refine hdK 29 (some 33) ?_
   refine hdT 30 (some 34) ?_; refine hdT 31 (some 35) ?_; refine hdK 32 (some 36) ?_; refine hdK 33 (some 37) ?_; refine hdK 34 (some 38) ?_
   refine hdK 35 (some 39) ?_; refine hdT 36 (some 40) ?_; refine hdT 37 (some 2) ?_
   refine wpAnyH_done (by kernel_rfl) ?_ 0
   go_wp2
   go_returns
   exact ⟨by rw [HRB.out,t1]; rfl,hU.drew⟩
end Go.Proofs.YtfkcdnaghndgfaaGreatDoor
namespace Go.Proofs.YtfkcdnaghndgfaaGreatDoor
open Go.RowKit
structure PartsOk (y m d h mi s:Int):Prop where
 y0:1980≤y
 y1:y≤2107
 m0:0≤m
 m1:m≤15
 d0:0≤d
 d1:d≤31
 h0:0≤h
 h1:h≤31
 i0:0≤mi
 i1:mi≤63
 s0:0≤s
 s1:s≤62
def ZY (y m d h mi s:Int):Bool:=decide (1≤d)&&decide (d≤JA y m)&&decide (h<24)&&decide (mi<60)&&decide (s<60)&&decide (s%2=0)
theorem zb8 (y m d h mi s:Int) (w:World) (hp:PartsOk y m d h mi s) :
 Calls Tryz.prog 73 #[.agg #[.int .i64 y,.int .i64 m,.int .i64 d,.int .i64 h,.int .i64 mi,.int .i64 s]] w fun e w'=>e = .returned (.bool (ZY y m d h mi s))∧Upd [] w w':=by
 have e:XJ y m d h mi s=ZY y m d h mi s:=by
  have h1:vz y m=JA y m:=if_neg (by have:=hp.y0; have:=hp.y1; omega)
  unfold XJ ZY
  rw [h1,decide_eq_true hp.h0,decide_eq_true hp.i0,decide_eq_true hp.s0,Bool.true_and,Bool.true_and,Bool.true_and]
 rw [← e]
 exact za5 y m d h mi s w
end Go.Proofs.YtfkcdnaghndgfaaGreatDoor
