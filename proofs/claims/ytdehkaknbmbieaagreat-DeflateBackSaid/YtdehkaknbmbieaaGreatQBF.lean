/- Package block: Write: its walk. -/
import Derived.Test.YtdehkaknbmbieaaGreatQBE
import Derived.Deep.QuietTactic
import Derived.BigQuiet
import Derived.Sort.QuietIn
import Derived.Stop.RegionWithIn
import Derived.OwnWalkIn
import Derived.TacticsInMore
import Derived.LoopNIn
import Derived.LoopIn
import Derived.Sort.LoopGhostIn
import Derived.Test.YtdehkaknbmbieaaGreatQAK
import Derived.Test.YtdehkaknbmbieaaGreatQAL
import Derived.Test.YtdehkaknbmbieaaGreatQAN
import Derived.Test.YtdehkaknbmbieaaGreatQAM
namespace Go.Proofs.YtdehkaknbmbieaaGreat
set_option linter.unusedVariables false
set_option linter.unusedSimpArgs false
set_option linter.unusedSectionVars false
open Go.RowKit
attribute [local go_sem] Oper.semAt_some
set_option linter.unusedVariables false
set_option linter.unusedSimpArgs false

theorem row_heap {w : World} {e : TypeId} {size n k : Nat} {v : Value} {xs : List Value} (h : Row w e size v n xs) (hk : v.ownBlock = some k) : ∃ cs fr, w.heap[k]? = some (.cells cs e fr) := by
  rcases h.2 with ⟨rfl, rfl⟩ | ⟨g', cap, cur, rfl, hb, hh, _⟩
  · simp [Value.ownBlock] at hk
  · simp [Value.ownBlock] at hk
    subst hk
    exact ⟨_, _, hh⟩
theorem WrAt.apart {w : World} {b m k : Nat} {v : Value} {L : List Bool} {T : TypeId} {cs : Array Value} {fr : Nat × Nat} (h : WrAt w b v L m) (hk : w.heap[k]? = some (.cells cs T fr)) (h1 : T ≠ 31) (h2 : T ≠ 5) : k ∉ wrFp b v := fun hm => by
  rcases List.mem_cons.1 hm with h3 | h3
  · subst h3
    have := h.blk
    unfold Blk at this
    rw [this] at hk
    simp at hk
    exact h1 hk.2.1.symm
  · obtain ⟨cs', fr', h4⟩ := row_heap h.row (k := k) (by simpa using h3)
    rw [h4] at hk
    simp at hk
    exact h2 hk.2.1.symm
theorem blk_heap {w : World} {b : Nat} {cs : List Value} {t : TypeId} (h : Blk w b cs t) : w.heap[b]? = some (.cells cs.toArray t (0, 0)) := h
def BadK (l : List Tok) (n : Nat) (k : Int) : Prop := k < 0 ∨ 2 < k ∨ (k = 0 ∧ (0 < farN l ∨ 65535 < n))
theorem tabB_le (m1 m2 t : Nat) (lens : List Nat) (steps : List StpD) (ht : t ≤ 19) (hl : ∀ x ∈ lens, x ≤ 15) (hs : ∀ s ∈ steps, s.bits ≤ 7) : (tabB m1 m2 t lens steps).length ≤ 71 + 22 * steps.length := by
  have h1 := lenBt_len lens t ht
  have h2 := stpsB_le lens hl steps hs
  unfold tabB headB
  simp only [List.length_append, length_low]
  omega
def WriteP9 (w : World) (b : Nat) (v : Value) (L : List Bool) (l : List Tok) (k : Nat) (last : Bool) (e : Ending) (w' : World) : Prop := e = .returned (.bool true) ∧ ∃ v' M, IsBlock L l k last M ∧ WS w b v w' v' M
theorem bitsN_le9 (s : Nat) : bitsN s ≤ 7 := by unfold bitsN; split; omega; split; omega; split <;> omega
theorem made_more {l : List Tok} {lits backs lens : List Nat} {steps : List StpD} (h : MadeL l lits backs steps lens) (hb : ∀ s ∈ steps, s.sym < 19 ∧ s.bits ≤ 7) : ∀ s ∈ steps, lens.getD s.sym 0 ≠ 0 ∧ s.bits ≤ 7 ∧ s.more < 256 := by
  intro s hs
  obtain ⟨i, hi, rfl⟩ := List.getElem_of_mem hs
  have h1 := okAll_at steps [] h.dec.1 i hi
  have h2 := h.sy _ hs
  have h3 : 2 ^ bitsN steps[i].sym ≤ 2 ^ 7 := Nat.pow_le_pow_right (by omega) (bitsN_le9 _)
  have h4 := h1.more
  exact ⟨by omega, (hb _ hs).2, by omega⟩
set_option maxRecDepth 100000 in
set_option maxHeartbeats 12800000 in
theorem bwrite_aux (l : List Tok) (b : Nat) (v : Value) (L : List Bool) (a : Option Addr) (n cap k : Nat) (last LST : Bool) (hLST : LST = last) (w : World) (hI : ∀ w', Upd (wrFp b v) w w' → TokIn w' a n l)
    (hW : WrAt w b v L (L.length / 8)) (hL : L.length ≤ 50000000000) (hn : n ≤ 100000) (hok : ∀ t ∈ l, okTok t) (hk : k ≤ 2) (hg : ¬ BadK l n (k : Nat)) :
    Calls Tryz.prog 10 #[.pointer (some ⟨b, 0, none⟩), .slice a n cap, .int .i64 (k : Nat), .bool last] w (WriteP9 w b v L l k LST) := by
  have HC := Lib.hid (lzCount_any l a n cap w (hI w (Upd.refl _ _)) hn)
  have hfl : farN l ≤ n := by have := farN_le l; rw [(hI w (Upd.refl _ _)).len] at this; exact this
  have HI := Lib.hid hI
  have HOK := Lib.hid hok
  have HML := Lib.hid (by have := many_ok l l.length (Nat.le_refl _); rw [List.take_length] at this; exact And.intro this.la this.lb)
  have HW := Lib.hid (WS.refl hW)
  unfold CountP9 at HC
  have hg2 : k = 0 → farN l = 0 ∧ n ≤ 65535 := fun h => by
    unfold BadK at hg
    omega
  have HG := Lib.hid hg2
  generalize litN l = A at *
  generalize farN l = B at *
  have hB0 : k = 0 → ¬ (0 : Int) < (B : Int) := fun h => by have := hg2 h; omega
  have hN0 : k = 0 → ¬ (65535 : Int) < (n : Int) := fun h => by have := hg2 h; omega
  have HB0 := Lib.hid hB0
  have HN0 := Lib.hid hN0
  clear hI hok hW hg hg2 hB0 hN0
  have hkz : ¬ (2 : Int) < (k : Int) := by omega
  have hkz0 : ¬ (k : Int) < 0 := by omega
  obtain ⟨lb, hlb⟩ : ∃ lb : Nat, (if LST then 1 else 0) = lb := ⟨_, rfl⟩
  have hlb2 : lb < 2 := by rw [← hlb]; split <;> omega
  have HLB := Lib.hid hlb
  rcases (by omega : k = 0 ∨ k = 1 ∨ k = 2) with rfl | rfl | rfl
  · have hb1 := HB0.out rfl
    have hb2 := HN0.out rfl
    go_enter Tryz.func10, Tryz.ntmps10
    go_wp2_with fail
    refine HC.out.mono ?_
    rintro e w1 ⟨rfl, hU1⟩
    have HW1 := Lib.hid (HW.out.pure hU1)
    have HBX := Lib.hid (fun (x : Int) (hx : x = (lb : Nat)) => bits_any b lb x 1 1 w1 v L hx (by omega) HW1.out.at_ (by omega) (by omega) (Lib.hid (by omega)))
    clear hU1 HC HW
    have HLST := Lib.hid hLST
    clear hLST
    rcases (by cases last <;> simp : last = true ∨ last = false) with rfl | rfl
    all_goals
      go_wp2_with fail
      refine (HBX.out _ (by have h1 := HLB.out; have h2 := HLST.out; rw [h2] at h1; simp at h1; omega)).mono ?_
      rintro e w2 ⟨rfl, v2, h1', h2', h3⟩
      have HW2 := Lib.hid (HW1.out.step h1' h2' h3)
      clear h1' h2' h3 HBX
      have hl2 : (L ++ low 1 lb).length ≤ 50000000001 := by rw [List.length_append, length_low]; omega
      obtain ⟨L2, hL2⟩ : ∃ L2, L ++ low 1 lb = L2 := ⟨_, rfl⟩
      rw [hL2] at HW2 hl2
      have hxc : IntKind.u32.wrap ((0 : Nat) : Int) = ((0 : Nat) : Int) := by decide
      have hxc' : (((0 : Nat) : Int) % 4294967296) = ((0 : Nat) : Int) := by omega
      have HBX := Lib.hid (bits_any b 0 ((0 : Nat) : Int) 2 2 w2 v2 L2 rfl (by omega) HW2.out.at_ (by omega) (by omega) (Lib.hid (by omega)))
      have HHK : Hid (headK L 0 LST = L2 ++ low 2 0) := Lib.hid (by unfold headK; rw [hlb, hL2])
      clear hL2 HW1 hlb
      go_wp2_with fail
      refine HBX.out.mono ?_
      rintro e w3 ⟨rfl, v3, h1', h2', h3⟩
      have HW3 := Lib.hid (HW2.out.step h1' h2' h3)
      rw [← HHK.out] at HW3
      have hl3 : (headK L 0 LST).length ≤ 50000000003 := by rw [HHK.out, List.length_append, length_low]; omega
      clear h1' h2' h3 HBX HW2 hxc hxc'
      have HS := Lib.hid (bstore_any l b v3 (headK L 0 LST) a n cap w3 (fun w' h => HI.out w' (HW3.out.fp h)) HW3.out.at_ (by omega) (by first | exact (HG.out rfl).2 | exact (HG.out trivial).2))
      clear HB0 HN0 hb1 hb2
      go_wp2_with fail
      refine HS.out.mono ?_
      rintro e w4 ⟨rfl, v4, h4⟩
      have HW4 := Lib.hid (HW3.out.step h4.at_ h4.upd h4.later)
      clear h4 HS
      go_wp2
      go_ret
      exact ⟨rfl, v4, _, .inl ⟨rfl, rfl⟩, HW4.out⟩
  · go_enter Tryz.func10, Tryz.ntmps10
    go_wp2_with fail
    refine HC.out.mono ?_
    rintro e w1 ⟨rfl, hU1⟩
    have HW1 := Lib.hid (HW.out.pure hU1)
    have HBX := Lib.hid (fun (x : Int) (hx : x = (lb : Nat)) => bits_any b lb x 1 1 w1 v L hx (by omega) HW1.out.at_ (by omega) (by omega) (Lib.hid (by omega)))
    clear hU1 HC HW
    have HLST := Lib.hid hLST
    clear hLST
    rcases (by cases last <;> simp : last = true ∨ last = false) with rfl | rfl
    all_goals
      go_wp2_with fail
      refine (HBX.out _ (by have h1 := HLB.out; have h2 := HLST.out; rw [h2] at h1; simp at h1; omega)).mono ?_
      rintro e w2 ⟨rfl, v2, h1', h2', h3⟩
      have HW2 := Lib.hid (HW1.out.step h1' h2' h3)
      clear h1' h2' h3 HBX
      have hl2 : (L ++ low 1 lb).length ≤ 50000000001 := by rw [List.length_append, length_low]; omega
      obtain ⟨L2, hL2⟩ : ∃ L2, L ++ low 1 lb = L2 := ⟨_, rfl⟩
      rw [hL2] at HW2 hl2
      have hxc : IntKind.u32.wrap ((1 : Nat) : Int) = ((1 : Nat) : Int) := by decide
      have hxc' : (((1 : Nat) : Int) % 4294967296) = ((1 : Nat) : Int) := by omega
      have HBX := Lib.hid (bits_any b 1 ((1 : Nat) : Int) 2 2 w2 v2 L2 rfl (by omega) HW2.out.at_ (by omega) (by omega) (Lib.hid (by omega)))
      have HHK : Hid (headK L 1 LST = L2 ++ low 2 1) := Lib.hid (by unfold headK; rw [hlb, hL2])
      clear hL2 HW1 hlb
      go_wp2_with fail
      refine HBX.out.mono ?_
      rintro e w3 ⟨rfl, v3, h1', h2', h3⟩
      have HW3 := Lib.hid (HW2.out.step h1' h2' h3)
      rw [← HHK.out] at HW3
      have hl3 : (headK L 1 LST).length ≤ 50000000003 := by rw [HHK.out, List.length_append, length_low]; omega
      clear h1' h2' h3 HBX HW2 hxc hxc'
      clear HB0 HN0
      go_wp2_with fail
      refine (fixed_any _).mono ?_
      rintro e w4 ⟨f1, d1, f2, rfl, hF1, hF2, hU4, _, _⟩
      have HW4 := Lib.hid (HW3.out.pure hU4)
      obtain ⟨cs1, fr1, hh1⟩ := row_heap hF1 (k := f1) rfl
      obtain ⟨cs2, fr2, hh2⟩ := row_heap hF2 (k := f2) rfl
      have hn1 := HW4.out.at_.apart hh1 (by decide) (by decide)
      have hn2 := HW4.out.at_.apart hh2 (by decide) (by decide)
      have hI1 : IntsIn w4 (some ⟨f1, 0, none⟩) 288 (ints (fixP 4)) := IntsIn.row hF1 (fun x hx => by have := fix15.1 x hx; omega)
      have hI2 : IntsIn w4 (some ⟨f2, 0, none⟩) 32 (ints (List.replicate 32 5)) := IntsIn.row hF2 (fun x hx => by have := fix15.2.1 x hx; omega)
      have hP := fix_plan l HOK.out
      have HS := Lib.hid (bsymbols_any l (fixP 4) (List.replicate 32 5) b v3 (headK L 1 LST) a (some ⟨f1, 0, none⟩) (some ⟨f2, 0, none⟩) n cap 288 d1 32 32 w4 (fun w' h => HI.out w' (HW4.out.fp h)) (fun w' h => hI1.upd h (fun b' off e => by cases e; exact hn1)) (fun w' h => hI2.upd h (fun b' off e => by cases e; exact hn2)) HW4.out.at_ (by omega) hn hP.a3 hP.b3 hP.coded HOK.out)
      clear hF1 hF2 hU4 hh1 hh2 hn1 hn2 hI1 hI2 hP HW3
      go_wp2_with fail
      refine HS.out.mono ?_
      rintro e w5 ⟨rfl, v5, h5⟩
      have HW5 := Lib.hid (HW4.out.step h5.at_ h5.upd h5.later)
      clear h5 HS
      go_wp2
      go_ret
      exact ⟨rfl, v5, _, .inr (.inl ⟨rfl, rfl⟩), HW5.out⟩
  · go_enter Tryz.func10, Tryz.ntmps10
    go_wp2_with fail
    refine HC.out.mono ?_
    rintro e w1 ⟨rfl, hU1⟩
    have HW1 := Lib.hid (HW.out.pure hU1)
    have HBX := Lib.hid (fun (x : Int) (hx : x = (lb : Nat)) => bits_any b lb x 1 1 w1 v L hx (by omega) HW1.out.at_ (by omega) (by omega) (Lib.hid (by omega)))
    clear hU1 HC HW
    have HLST := Lib.hid hLST
    clear hLST
    rcases (by cases last <;> simp : last = true ∨ last = false) with rfl | rfl
    all_goals
      go_wp2_with fail
      refine (HBX.out _ (by have h1 := HLB.out; have h2 := HLST.out; rw [h2] at h1; simp at h1; omega)).mono ?_
      rintro e w2 ⟨rfl, v2, h1', h2', h3⟩
      have HW2 := Lib.hid (HW1.out.step h1' h2' h3)
      clear h1' h2' h3 HBX
      have hl2 : (L ++ low 1 lb).length ≤ 50000000001 := by rw [List.length_append, length_low]; omega
      obtain ⟨L2, hL2⟩ : ∃ L2, L ++ low 1 lb = L2 := ⟨_, rfl⟩
      rw [hL2] at HW2 hl2
      have hxc : IntKind.u32.wrap ((2 : Nat) : Int) = ((2 : Nat) : Int) := by decide
      have hxc' : (((2 : Nat) : Int) % 4294967296) = ((2 : Nat) : Int) := by omega
      have HBX := Lib.hid (bits_any b 2 ((2 : Nat) : Int) 2 2 w2 v2 L2 rfl (by omega) HW2.out.at_ (by omega) (by omega) (Lib.hid (by omega)))
      have HHK : Hid (headK L 2 LST = L2 ++ low 2 2) := Lib.hid (by unfold headK; rw [hlb, hL2])
      clear hL2 HW1 hlb
      go_wp2_with fail
      refine HBX.out.mono ?_
      rintro e w3 ⟨rfl, v3, h1', h2', h3⟩
      have HW3 := Lib.hid (HW2.out.step h1' h2' h3)
      rw [← HHK.out] at HW3
      have hl3 : (headK L 2 LST).length ≤ 50000000003 := by rw [HHK.out, List.length_append, length_low]; omega
      clear h1' h2' h3 HBX HW2 hxc hxc'
      clear HB0 HN0
      have HMM := Lib.hid (made_any l a n cap w3 (HI.out w3 HW3.out.upd) hn HOK.out)
      go_wp2_with fail
      refine HMM.out.mono ?_
      rintro e w4 ⟨g1, c1, g2, c2, g4, v3', lits, backs, lens, steps, rfl, hM, hR1, hR2, hR3, hB4, hU4⟩
      obtain ⟨va, vc, rfl⟩ := hR3.form
      obtain ⟨m1b, m1b', m2b, m2b', x15, y15, hsy0, hl7, hl19, hsl⟩ := hM.bd HML.out
      have hlaw := hM.law HML.out HOK.out
      have hP := hM.plan HML.out HOK.out
      have HW4 := Lib.hid (HW3.out.pure hU4)
      have hPn := notin_new HW4.out (Nat.le_refl w4.heap.size)
      have hU5 : Upd [] w4 (w4.alloc (.cells #[.slice (some ⟨g1, 0, none⟩) lits.length c1, .slice (some ⟨g2, 0, none⟩) backs.length c2, .slice va steps.length vc, .slice (some ⟨g4, 0, none⟩) 19 19] 61)) := (Upd.refl [] w4).alloc _
      have hP5 := Blk.new w4 [.slice (some ⟨g1, 0, none⟩) lits.length c1, .slice (some ⟨g2, 0, none⟩) backs.length c2, .slice va steps.length vc, .slice (some ⟨g4, 0, none⟩) 19 19] 61
      have HW5 := Lib.hid (HW4.out.pure hU5)
      have hR1' := hR1.upd hU5 (by simp)
      have hR2' := hR2.upd hU5 (by simp)
      have hR3' := hR3.upd hU5 (by simp)
      have hB4' := hB4.upd hU5 (by simp)
      clear hR1 hR2 hR3 hB4 hU5 hU4 HMM HW3
      go_upto_region 10 with fail
      change Code.wp _ _ _ _ (w4.alloc (.cells #[.slice (some ⟨g1, 0, none⟩) lits.length c1, .slice (some ⟨g2, 0, none⟩) backs.length c2, .slice va steps.length vc, .slice (some ⟨g4, 0, none⟩) 19 19] 61))
      generalize w4.alloc (.cells #[.slice (some ⟨g1, 0, none⟩) lits.length c1, .slice (some ⟨g2, 0, none⟩) backs.length c2, .slice va steps.length vc, .slice (some ⟨g4, 0, none⟩) 19 19] 61) = w5 at *
      generalize w4.heap.size = pb at *
      have n4 := HW5.out.at_.apart (blk_heap hB4') (by decide) (by decide)
      have hIn : IntsIn w5 (some ⟨g4, 0, none⟩) 19 (ints lens) := IntsIn.blk hB4' hl19 (fun x hx => by have := hl7 x hx; omega)
      have n3 : ∀ bb off, va = some ⟨bb, off, none⟩ → bb ∉ wrFp b v3 := fun bb off e => by
        subst e
        obtain ⟨cs, fr, hh⟩ := row_heap hR3' (k := bb) rfl
        exact HW5.out.at_.apart hh (by decide) (by decide)
      have hSt : StpIn w5 va steps.length steps := StpIn.row hR3' rfl
      have HTB := Lib.hid (btables_any lens steps b v3 (headK L 2 LST) (some ⟨g1, 0, none⟩) (some ⟨g2, 0, none⟩) va (some ⟨g4, 0, none⟩) lits.length backs.length steps.length c1 c2 vc 19 w5
        (fun w' h => hIn.upd h (fun b' off e => by cases e; exact n4)) (fun w' h => hSt.updF h n3) HW5.out.at_ (by omega) (by omega) ⟨m1b, m1b'⟩ ⟨m2b, m2b'⟩ (by rw [hlaw.okC]; omega) (made_more hlaw hsy0) (fun j => getD_le hl7 j))
      have k0 := hP5.cell 0 rfl
      have k1 := hP5.cell 1 rfl
      have k2 := hP5.cell 2 rfl
      have k3 := hP5.cell 3 rfl
      have HP5 := Lib.hid hP5
      have HPN := Lib.hid hPn
      have HR1 := Lib.hid hR1'
      have HR2 := Lib.hid hR2'
      have HM := Lib.hid hM
      have HPL := Lib.hid hP
      have HX15 := Lib.hid x15
      have HY15 := Lib.hid y15
      have HTL := Lib.hid (fun t (ht : ToldO lens t) => tabB_le lits.length backs.length t lens steps ht.hi (fun x hx => by have := hl7 x hx; omega) (fun s hs => (hsy0 s hs).2))
      clear hP5 hPn hR1' hR2' hR3' hB4' n4 n3 hIn hSt hM hP hlaw x15 y15 hsy0 hl7 hl19 HW4
      go_wp2_with fail
      refine HTB.out.mono ?_
      rintro e w6 ⟨rfl, v6, t, ht, h6⟩
      have HW6 := Lib.hid (HW5.out.step h6.at_ h6.upd h6.later)
      have hP6 := HP5.out.upd h6.upd HPN.out
      have hR1 := HR1.out
      have hR2 := HR2.out
      obtain ⟨cs1, fr1, hh1⟩ := row_heap hR1 (k := g1) rfl
      obtain ⟨cs2, fr2, hh2⟩ := row_heap hR2 (k := g2) rfl
      have n1 := HW5.out.at_.apart hh1 (by decide) (by decide)
      have n2 := HW5.out.at_.apart hh2 (by decide) (by decide)
      have hR16 := hR1.upd h6.upd (fun k hk => by simp [Value.ownBlock] at hk; subst hk; exact n1)
      have hR26 := hR2.upd h6.upd (fun k hk => by simp [Value.ownBlock] at hk; subst hk; exact n2)
      have m1' := notin_later n1 (hR1.lt g1 rfl) h6.later
      have m2' := notin_later n2 (hR2.lt g2 rfl) h6.later
      have hI1 : IntsIn w6 (some ⟨g1, 0, none⟩) lits.length (ints lits) := IntsIn.row hR16 (fun x hx => by have := HX15.out x hx; omega)
      have hI2 : IntsIn w6 (some ⟨g2, 0, none⟩) backs.length (ints backs) := IntsIn.row hR26 (fun x hx => by have := HY15.out x hx; omega)
      have htl := HTL.out t ht
      have HT := Lib.hid ht
      have HS := Lib.hid (bsymbols_any l lits backs b v6 (headK L 2 LST ++ tabB lits.length backs.length t lens steps) a (some ⟨g1, 0, none⟩) (some ⟨g2, 0, none⟩) n cap lits.length c1 backs.length c2 w6 (fun w' h => HI.out w' (HW6.out.fp h)) (fun w' h => hI1.upd h (fun b' off e => by cases e; exact m1')) (fun w' h => hI2.upd h (fun b' off e => by cases e; exact m2')) HW6.out.at_ (by rw [List.length_append]; omega) hn HPL.out.a3 HPL.out.b3 HPL.out.coded HOK.out)
      clear k0 k1 k2 k3
      have k0 := hP6.cell 0 rfl
      have k1 := hP6.cell 1 rfl
      clear h6 hP6 hR1 hR2 hh1 hh2 n1 n2 hR16 hR26 m1' m2' hI1 hI2 ht HTB HW5 htl HTL
      go_wp2_with fail
      refine HS.out.mono ?_
      rintro e w7 ⟨rfl, v7, h7⟩
      have HW7 := Lib.hid (HW6.out.step h7.at_ h7.upd h7.later)
      clear h7 HS k0 k1
      go_wp2
      go_ret
      exact ⟨rfl, v7, _, .inr (.inr ⟨rfl, lits, backs, steps, lens, t, HM.out, HT.out, rfl⟩), HW7.out⟩
theorem bwrite_any (l : List Tok) (b : Nat) (v : Value) (L : List Bool) (a : Option Addr) (n cap k : Nat) (last : Bool) (w : World) (hI : ∀ w', Upd (wrFp b v) w w' → TokIn w' a n l)
    (hW : WrAt w b v L (L.length / 8)) (hL : L.length ≤ 50000000000) (hn : n ≤ 100000) (hok : ∀ t ∈ l, okTok t) (hk : k ≤ 2) (hg : ¬ BadK l n (k : Nat)) :
    Calls Tryz.prog 10 #[.pointer (some ⟨b, 0, none⟩), .slice a n cap, .int .i64 (k : Nat), .bool last] w (WriteP9 w b v L l k last) := bwrite_aux l b v L a n cap k last last rfl w hI hW hL hn hok hk hg
end Go.Proofs.YtdehkaknbmbieaaGreat
namespace Go.Proofs.YtdehkaknbmbieaaGreat
set_option linter.unusedVariables false
set_option linter.unusedSimpArgs false
set_option linter.unusedSectionVars false
open Go.RowKit
attribute [local go_sem] Oper.semAt_some
set_option linter.unusedVariables false
set_option linter.unusedSimpArgs false

theorem each_any (a : Option Addr) (n c : Nat) (w : World) : Calls Tryz.prog 73 #[.slice a n c] w fun e w' =>
    e = .returned (.func (.func 101) #[] #[.pointer (some ⟨w.heap.size, 0, none⟩)]) ∧ w' = w.alloc (.cells #[.slice a n c] 22) := by
  go_enter Tryz.func73, Tryz.ntmps73
  go_wp2
  go_ret
  exact ⟨rfl, rfl⟩
/-- How many rows. -/
def rowsN (n : Nat) : Nat := if n = 0 then 1 else (n + 7999) / 8000
/-- A row of n tokens, and whether it is the last. -/
def rowV (g o n cap q : Nat) : Array Value := #[.slice (some ⟨g, o + 24000 * q, none⟩) (min (n - 8000 * q) 8000) (cap - 8000 * q), .bool (decide (q + 1 = rowsN n))]
theorem range_snoc (q : Nat) : List.range (q + 1) = List.range q ++ [q] := List.range_succ
theorem range_pre {a b : Nat} (h : a ≤ b) : List.range a <+: List.range b := by
  induction h with
  | refl => exact List.prefix_refl _
  | step _ ih => exact ih.trans ⟨_, (range_snoc _).symm⟩
set_option maxRecDepth 100000 in
set_option maxHeartbeats 2000000 in
theorem each_seqN1 (Bs g o n cap : Nat) (w : World) (hB : Blk w Bs [.slice (some ⟨g, o, none⟩) n cap] 22) (hn : n ≤ 1000000) (hc : n ≤ cap) (hcm : cap ≤ 9223372036854775807) :
    SeqN Tryz.prog 101 #[.pointer (some ⟨Bs, 0, none⟩)] (fun q : Nat => rowV g o n cap q) [Bs] [Bs] (fun xs => xs = List.range (rowsN n)) (fun pre => pre <+: List.range (rowsN n)) (fun pre q => pre = List.range q ∧ q < rowsN n) w := by
  intro l J Jx W hU hz hJ hJx hY h0
  have b1 : Blk W Bs [.slice (some ⟨g, o, none⟩) n cap] 22 := hB.upd hU (by simp)
  have HJ := Lib.hid hJ
  have HY := Lib.hid hY
  have HJ0 := Lib.hid h0
  clear hJ hY h0 hJx hU hz hB
  have HB := Lib.hid b1
  clear b1
  refine callsIn_of_wp Tryz.func101 rfl trivial ?_ rfl
  simp only [Tryz.ntmps101, List.size_toArray, List.length_cons, List.length_nil, Nat.reduceAdd, Nat.reduceSub, Array.replicate_succ, Array.replicate_zero, List.push_toArray, List.append_toArray, List.nil_append, List.cons_append]
  obtain ⟨R, hR⟩ : ∃ R, rowsN n = R := ⟨_, rfl⟩
  have HR := Lib.hid hR
  rw [hR] at HY ⊢
  have hRp : 0 < R := by rw [← hR]; unfold rowsN; split <;> omega
  clear hR
  gi_wp2
  gi_loopg [] R (fun gg wr => ∃ q : Nat, q < R ∧ gg = R - q ∧ Hid (8000 * q ≤ n) ∧ Hid (J (List.range q) wr) ∧ Hid (Blk wr Bs [.slice (some ⟨g, o + 24000 * q, none⟩) (n - 8000 * q) (cap - 8000 * q)] 22))
  case atStart => exact ⟨0, hRp, rfl, Lib.hid (by omega), HJ0, HB⟩
  case round =>
    obtain ⟨q, hq, rfl, HQ, HJq, HBq⟩ := hrel
    clear HB HJ0
    have c1 := HBq.out.cell 0 rfl
    have HRV : Hid (rowV g o n cap q = #[.slice (some ⟨g, o + 24000 * q, none⟩) (min (n - 8000 * q) 8000) (cap - 8000 * q), .bool (decide (q + 1 = R))]) := Lib.hid (by unfold rowV; rw [HR.out])
    have HQ2 : Hid (8000 * q ≤ n ∧ n ≤ cap ∧ (q + 1 = R ↔ n - 8000 * q ≤ 8000) ∧ cap ≤ 9223372036854775807) := Lib.hid ⟨HQ.out, hc, by have h1 := HR.out; have := HQ.out; unfold rowsN at h1; split at h1 <;> omega, hcm⟩
    have HN1 : Hid ((o + 24000 * q) + 24000 = o + 24000 * (q + 1) ∧ n - 8000 * q - 8000 = n - 8000 * (q + 1) ∧ cap - 8000 * q - 8000 = cap - 8000 * (q + 1)) := Lib.hid (by omega)
    obtain ⟨fn, tmps, assign, body, hy, hRd⟩ := HY.out (List.range q) q wr HJq.out ⟨rfl, hq⟩ (by intro k hk; simp at hk; subst hk; exact HBq.out.lt)
    have hmc : n - 8000 * q ≤ cap - 8000 * q := by omega
    have hm1 := HQ2.out.2.2.1
    have hc1 : cap - 8000 * q ≤ 9223372036854775807 := by omega
    have HQN : Hid (q + 1 ≠ R → 8000 * (q + 1) ≤ n) := Lib.hid (fun h => by have := HQ2.out; omega)
    clear HQ2 HQ
    rw [HRV.out] at hy
    generalize n - 8000 * q = m at *
    generalize cap - 8000 * q = C at *
    generalize o + 24000 * q = D at *
    by_cases hl : q + 1 = R
    · have hm8 := hm1.1 hl
      have hmn : min (m : Int) 8000 = (m : Int) := by omega
      rw [decide_eq_true hl, Nat.min_eq_left hm8] at hy
      have hmC : (m : Int) ≤ (C : Int) := by omega
      have hm0 : (0 : Int) ≤ (m : Int) := by omega
      have HL := Lib.hid hl
      clear hm1 hl
      gi_wp2
      refine hRd.mono ?_
      rintro e W3 (⟨rfl, hJ3, hk3⟩ | ⟨rfl, hJx3⟩)
      · have HJ3 := Lib.hid hJ3
        clear hk3 hJ3 hRd
        gi_wp2
        refine bodyPost_ret (results_none rfl _ _ _) rfl ?_
        exact ⟨⟨_, rfl⟩, .inl ⟨_, by rw [← HL.out, range_snoc], HJ3.out⟩⟩
      · have HJx3 := Lib.hid hJx3
        clear hJx3 hRd
        gi_wp2
        refine bodyPost_ret (results_none rfl _ _ _) rfl ?_
        exact ⟨⟨_, rfl⟩, .inr ⟨_, by rw [← HL.out, range_snoc]; exact List.prefix_refl _, HJx3.out⟩⟩
    · have hm8 : ¬ m ≤ 8000 := fun h => hl (hm1.2 h)
      have hmn : min (m : Int) 8000 = 8000 := by omega
      have hne : ¬ (8000 : Int) = (m : Int) := by omega
      rw [decide_eq_false hl, Nat.min_eq_right (by omega)] at hy
      have hmC : (8000 : Int) ≤ (C : Int) := by omega
      have hbe : ((8000 : Int) == (m : Int)) = false := by simp; omega
      have HL := Lib.hid hl
      have HQL : Hid (q + 1 < R) := Lib.hid (by omega)
      clear hm1 hl
      gi_wp2
      refine hRd.mono ?_
      rintro e W3 (⟨rfl, hJ3, hk3⟩ | ⟨rfl, hJx3⟩)
      · have HJ3 := Lib.hid hJ3
        have HB5 : Hid (Blk W3 Bs [.slice (some ⟨g, D, none⟩) m C] 22) := Lib.hid ((hk3.2 Bs (by simp)).trans HBq.out)
        have c5 := HB5.out.cell 0 rfl
        have f5 := HB5.out.frz 0
        clear hk3 hJ3 hRd c1
        gi_wp2
        have hB6 := HB5.out.set 0 (.slice (some ⟨g, D + 24000, none⟩) (m - 8000) (C - 8000))
        simp only [List.set_cons_zero] at hB6
        have hO6 : Own2 [Bs] W3 (W3.setCell ⟨Bs, 0, none⟩ (.slice (some ⟨g, D + 24000, none⟩) (m - 8000) (C - 8000))) :=
          own2_of (fq := [Bs]) ((Upd.refl [Bs] W3).setCell (p := ⟨Bs, 0, none⟩) (.inl (by simp)) _) (fun k hk => hk) (fun k hk => by simp at hk; subst hk; exact HB5.out.cellsOnly)
        have hJ6 := HJ.out (List.range (q + 1)) W3 _ (by rw [range_snoc]; exact HJ3.out) hO6
        rw [HN1.out.1, HN1.out.2.1, HN1.out.2.2] at hB6 hJ6 ⊢
        have HB6 := Lib.hid hB6
        have HJ6 := Lib.hid hJ6
        clear hB6 hJ6 hO6
        gi_roundg (R - (q + 1))
        all_goals first
          | (have := HQL.out; omega)
          | exact ⟨q + 1, HQL.out, rfl, Lib.hid (HQN.out HL.out), HJ6, HB6⟩
      · have HJx3 := Lib.hid hJx3
        clear hJx3 hRd
        gi_wp2
        refine bodyPost_ret (results_none rfl _ _ _) rfl ?_
        exact ⟨⟨_, rfl⟩, .inr ⟨_, by rw [← range_snoc]; exact range_pre (Nat.le_of_lt HQL.out), HJx3.out⟩⟩
/-- A row of tokens, and whether it is the last: also of no slice. -/
def rowA (a : Option Addr) (n cap q : Nat) : Array Value := #[.slice (a.map fun p => p.add (24000 * q)) (min (n - 8000 * q) 8000) (cap - 8000 * q), .bool (decide (q + 1 = rowsN n))]
theorem rowA_none : rowA none 0 0 0 = #[.slice none 0 0, .bool true] := by unfold rowA rowsN; simp
theorem rowA_some (g o n cap q : Nat) : rowA (some ⟨g, o, none⟩) n cap q = rowV g o n cap q := by unfold rowA rowV; simp only [Option.map_some]; first | rfl | rw [add_flat]
set_option maxRecDepth 100000 in
set_option maxHeartbeats 2000000 in
theorem each_seqN0 (Bs : Nat) (w : World) (hB : Blk w Bs [.slice none 0 0] 22) :
    SeqN Tryz.prog 101 #[.pointer (some ⟨Bs, 0, none⟩)] (fun q : Nat => rowA none 0 0 q) [Bs] [Bs] (fun xs => xs = List.range (1)) (fun pre => pre <+: List.range (1)) (fun pre q => pre = List.range q ∧ q < 1) w := by
  intro l J Jx W hU hz hJ hJx hY h0
  have b1 : Blk W Bs [.slice none 0 0] 22 := hB.upd hU (by simp)
  have HJ := Lib.hid hJ
  have HY := Lib.hid hY
  have HJ0 := Lib.hid h0
  clear hJ hY h0 hJx hU hz hB
  have HB := Lib.hid b1
  clear b1
  refine callsIn_of_wp Tryz.func101 rfl trivial ?_ rfl
  simp only [Tryz.ntmps101, List.size_toArray, List.length_cons, List.length_nil, Nat.reduceAdd, Nat.reduceSub, Array.replicate_succ, Array.replicate_zero, List.push_toArray, List.append_toArray, List.nil_append, List.cons_append]
  gi_wp2
  gi_loopg [] 1 (fun gg wr => gg = 1 ∧ Hid (J [] wr) ∧ Hid (Blk wr Bs [.slice none 0 0] 22))
  case atStart => exact ⟨rfl, HJ0, HB⟩
  case round =>
    obtain ⟨rfl, HJq, HBq⟩ := hrel
    clear HB HJ0
    have c1 := HBq.out.cell 0 rfl
    obtain ⟨fn, tmps, assign, body, hy, hRd⟩ := HY.out [] 0 wr HJq.out ⟨rfl, by omega⟩ (by intro k hk; simp at hk; subst hk; exact HBq.out.lt)
    rw [rowA_none] at hy
    have hm0 : min (0 : Int) 8000 = 0 := by decide
    gi_wp2
    refine hRd.mono ?_
    rintro e W3 (⟨rfl, hJ3, hk3⟩ | ⟨rfl, hJx3⟩)
    · have HJ3 := Lib.hid hJ3
      clear hk3 hJ3 hRd
      gi_wp2
      refine bodyPost_ret (results_none rfl _ _ _) rfl ?_
      exact ⟨⟨_, rfl⟩, .inl ⟨_, rfl, HJ3.out⟩⟩
    · have HJx3 := Lib.hid hJx3
      clear hJx3 hRd
      gi_wp2
      refine bodyPost_ret (results_none rfl _ _ _) rfl ?_
      exact ⟨⟨_, rfl⟩, .inr ⟨_, List.prefix_refl _, HJx3.out⟩⟩
theorem each_seqNA (Bs : Nat) (a : Option Addr) (n cap : Nat) (w : World) (ha : (a = none ∧ n = 0 ∧ cap = 0) ∨ ∃ g o, a = some ⟨g, o, none⟩) (hB : Blk w Bs [.slice a n cap] 22) (hn : n ≤ 1000000) (hc : n ≤ cap) (hcm : cap ≤ 9223372036854775807) :
    SeqN Tryz.prog 101 #[.pointer (some ⟨Bs, 0, none⟩)] (fun q : Nat => rowA a n cap q) [Bs] [Bs] (fun xs => xs = List.range (rowsN n)) (fun pre => pre <+: List.range (rowsN n)) (fun pre q => pre = List.range q ∧ q < rowsN n) w := by
  rcases ha with ⟨rfl, rfl, rfl⟩ | ⟨g, o, rfl⟩
  · exact each_seqN0 Bs w hB
  · have h := each_seqN1 Bs g o n cap w hB hn hc hcm
    simp only [← rowA_some] at h
    exact h
end Go.Proofs.YtdehkaknbmbieaaGreat
namespace Go.Proofs.YtdehkaknbmbieaaGreat
set_option linter.unusedVariables false
set_option linter.unusedSimpArgs false
set_option linter.unusedSectionVars false
open Go.RowKit Go.Shelf
attribute [local go_sem] Oper.semAt_some
set_option linter.unusedVariables false
set_option linter.unusedSimpArgs false

theorem wp_act {P : Program} {c : Code} {Q : Exit → Act → World → Prop} {a : Act} {w : World} (h : ∀ fr, fr = a → c.wp P Q fr w) : c.wp P Q a w := h a rfl
theorem Upd.putObj' {fp : List Nat} {a w : World} (h : Upd fp a w) {D : Nat} (hD : a.heap.size ≤ D) (o : Obj) : Upd fp a (w.putObj D o) := h.grown (grownBy_putObj' w D o) (fun k e => by cases e; exact .inr hD)
/-- A row of tokens. -/
def rowL (l : List Tok) (q : Nat) : List Tok := (l.drop (8000 * q)).take 8000
theorem rowL_len (l : List Tok) (q : Nat) : (rowL l q).length = min (l.length - 8000 * q) 8000 := by unfold rowL; rw [List.length_take, List.length_drop]; omega
theorem rowL_at (l : List Tok) (q i : Nat) (h : i < (rowL l q).length) : ∃ h2 : 8000 * q + i < l.length, (rowL l q)[i] = l[8000 * q + i] := by
  have h1 := h
  rw [rowL_len] at h1
  refine ⟨by omega, ?_⟩
  simp only [rowL, List.getElem_take, List.getElem_drop]
theorem TokIn.rowL {w : World} {a : Option Addr} {n : Nat} {l : List Tok} (h : TokIn w a n l) (q : Nat) : TokIn w (a.map fun p => p.add (24000 * q)) (min (n - 8000 * q) 8000) (rowL l q) :=
  ⟨by rw [rowL_len, h.len], fun i hi => by
    obtain ⟨h2, e⟩ := rowL_at l q i hi
    obtain ⟨b, off, rfl, ⟨c1, c2, c3⟩, r⟩ := h.cell (8000 * q + i) h2
    rw [e]
    refine ⟨b, off + 24000 * q, by simp only [Option.map_some]; rw [add_flat], ⟨?_, ?_, ?_⟩, r⟩
    · rw [show off + 24000 * q + i * 3 = off + (8000 * q + i) * 3 by omega]; exact c1
    · rw [show off + 24000 * q + i * 3 + 1 = off + (8000 * q + i) * 3 + 1 by omega]; exact c2
    · rw [show off + 24000 * q + i * 3 + 2 = off + (8000 * q + i) * 3 + 2 by omega]; exact c3⟩
end Go.Proofs.YtdehkaknbmbieaaGreat
