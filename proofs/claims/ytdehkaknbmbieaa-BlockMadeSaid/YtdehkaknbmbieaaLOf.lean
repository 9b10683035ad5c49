/- Package lens: Of: its walk. -/
import Derived.Test.YtdehkaknbmbieaaFil
import Derived.Test.YtdehkaknbmbieaaUsed
namespace Go.Proofs.Ytdehkaknbmbieaa
set_option linter.unusedVariables false
set_option linter.unusedSimpArgs false
set_option linter.unusedSectionVars false
open Go.RowKit
set_option linter.unusedVariables false
set_option linter.unusedSimpArgs false

theorem mkInts (n : Nat) (hn : n ≤ 1000000) (w : World) : (Instr.makeSlice 22 (.int .i64 (n : Int)) (.int .i64 (n : Int))).run Try.prog w = .ok (.slice (some ⟨w.heap.size, 0, none⟩) n n) (w.alloc (.cells (i64s (List.replicate n 0)).toArray 3)) := by
  obtain ⟨i0, hi, hz0, hz1, hz2⟩ := info_parts infoInt
  have h := run_make (P := Try.prog) w 22 3 i0 _ Try.underlying22 hi hz0 .i64 .i64 (n : Int) (n : Int) (by omega) (by omega) (by rw [hz2]; omega) (by omega)
  rw [h, hz1]
  have e : madeCells (Value.int .i64 0).cells ((n : Int).toNat * 1) = (i64s (List.replicate n 0)).toArray := by
    apply Array.toList_inj.1
    rw [show (Value.int .i64 0).cells = #[Value.int .i64 0] from rfl, toList_madeCells_one]
    simp [i64s]
  rw [e]
  rfl
/-- The lengths that lens.Of gives. -/
def ofL (many : List Int) (u : List Nat) (L n : Nat) : List Nat := if u.length = 1 then (List.replicate n 0).set (u.getD 0 0) 1 else (List.range n).map fun s => lenAt many u L s
def OfBad (L : Int) (n : Nat) (u : List Nat) : Prop := L < 1 ∨ 15 < L ∨ 300 < n ∨ 2 ^ L.toNat < u.length
def OfOut (many : List Int) (u : List Nat) (L : Int) (n : Nat) (w : World) (v : Value) (w' : World) : Prop :=
  (OfBad L n u ∧ v = .slice none 0 0) ∨ (¬ OfBad L n u ∧ ∃ ob, v = .slice (some ⟨ob, 0, none⟩) n n ∧ w.heap.size ≤ ob ∧ Blk w' ob (i64s (ofL many u L.toNat n)) 3)
def OfP (many : List Int) (L : Int) (n : Nat) (w : World) (e : Ending) (w' : World) : Prop := ∃ v u, e = .returned v ∧ IsUsed many many.length u ∧ OfOut many u L n w v w' ∧ Upd [] w w'
theorem used_ex (many : List Int) : ∃ u, IsUsed many many.length u := by
  cases h : many.length with
  | zero => exact ⟨[], IsUsed.nil many⟩
  | succ m =>
    have hdl : ∃ d : List (Fin (m + 1)), d.map Fin.val = rawU many (m + 1) := ⟨(rawU many (m + 1)).attach.map fun x => ⟨x.1, ((rawU_mem _ _ _).1 x.2).1⟩, by simp⟩
    obtain ⟨d, hdm⟩ := hdl
    have := sorted_used many m h d hdm
    rw [h] at this
    exact ⟨_, this⟩
set_option maxRecDepth 100000 in
set_option maxHeartbeats 6400000 in
theorem of_any (many : List Int) (a : Option Addr) (n cap : Nat) (L : Int) (w : World) (hI : IntsIn w a n many) (hn : n ≤ 1000000) :
    Calls Try.prog 11 #[.slice a n cap, .int .i64 L] w fun e w' => OfP many L n w e w' := by
  have HUSD := Lib.hid (fun w1 (h : Upd [] w w1) => used_any many a n cap w1 (hI.pure h) hn)
  have HI := Lib.hid hI
  obtain ⟨u0, hu0⟩ := used_ex many
  have HU0 := Lib.hid hu0
  have HLN := Lib.hid hI.len
  clear hI hu0
  by_cases h1 : L < 1
  · go_enter Try.func11, Try.ntmps11
    go_wp2
    go_ret
    exact ⟨_, u0, rfl, HU0.out, .inl ⟨.inl h1, rfl⟩, Upd.refl _ _⟩
  by_cases h2 : 15 < L
  · go_enter Try.func11, Try.ntmps11
    go_wp2
    go_ret
    exact ⟨_, u0, rfl, HU0.out, .inl ⟨.inr (.inl h2), rfl⟩, Upd.refl _ _⟩
  by_cases h3 : 300 < n
  · have h3z : (300 : Int) < (n : Int) := by omega
    go_enter Try.func11, Try.ntmps11
    go_wp2
    go_ret
    exact ⟨_, u0, rfl, HU0.out, .inl ⟨.inr (.inr (.inl h3)), rfl⟩, Upd.refl _ _⟩
  have h3z : ¬ (300 : Int) < (n : Int) := by omega
  have hmk := mkInts n hn
  obtain ⟨l, rfl⟩ : ∃ l : Nat, L = (l : Int) := ⟨L.toNat, by omega⟩
  have hl1 : 1 ≤ l := by omega
  have hl2 : l ≤ 15 := by omega
  obtain ⟨P, hP⟩ : ∃ P : Nat, 2 ^ l = P := ⟨_, rfl⟩
  have hPb : P ≤ 32768 := by
    have := Nat.pow_le_pow_right (n := 2) (by omega) hl2
    omega
  have hpw : wrap64 ((2 : Int) ^ l) = (P : Int) := by
    have : ((2 : Int) ^ l) = (P : Int) := by rw [← hP]; simp
    rw [this]
    unfold wrap64
    omega
  have HPP := Lib.hid hP
  clear hP
  go_enter Try.func11, Try.ntmps11
  go_wp2_with fail
  refine (HUSD.out _ (Upd.refl _ _)).mono ?_
  rintro e w1 ⟨v1, u, rfl, hu, hO, hU⟩
  obtain ⟨a1, c1, rfl⟩ := hO.form
  obtain ⟨k, hk⟩ : ∃ k, (i64s u).length = k := ⟨_, rfl⟩
  rw [hk] at hO ⊢
  have HK : Hid (u.length = k) := Lib.hid (by rw [← hk, length_i64s])
  have HUs := Lib.hid hu
  have HR1 : Hid (Row w1 3 1 (.slice a1 k c1) k (i64s u)) := Lib.hid (by have := hO.1; rwa [hk] at this)
  have HU := Lib.hid hU
  clear hk hu hO hU HUSD HU0
  have HTN : Hid ((l : Int).toNat = l) := Lib.hid (by omega)
  by_cases hb : P < k
  · have hbz : (P : Int) < (k : Int) := by omega
    go_wp2
    go_ret
    exact ⟨_, u, rfl, HUs.out, .inl ⟨.inr (.inr (.inr (by rw [HTN.out, HPP.out, HK.out]; exact hb))), rfl⟩, HU.out.alloc _⟩
  have hbz : ¬ (P : Int) < (k : Int) := by omega
  have HNB : Hid (¬ OfBad (l : Int) n u) := Lib.hid (by
    unfold OfBad
    rw [HTN.out, HPP.out, HK.out]
    omega)
  rcases Nat.lt_or_ge k 1 with hk0 | hk0
  · obtain rfl : k = 0 := by omega
    go_wp2
    go_ret
    refine ⟨_, u, rfl, HUs.out, .inr ⟨HNB.out, _, rfl, HU.out.size, ?_⟩, HU.out.alloc _⟩
    have hu : u = [] := List.eq_nil_of_length_eq_zero HK.out
    have e : ofL many u (l : Int).toNat n = List.replicate n 0 := by
      subst hu
      unfold ofL
      rw [if_neg (by simp)]
      apply List.ext_getElem
      · simp
      · intro i h1 h2
        simp [lenAt, sumC]
    rw [e]
    exact Blk.new w1 _ _
  · rcases Nat.lt_or_ge k 2 with hk1 | hk1
    · obtain rfl : k = 1 := by omega
      have hu1 : u.length = 1 := HK.out
      have hlt : u[0] < n := by have := ((HUs.out.mem u[0]).1 (List.getElem_mem (by omega))).1; rwa [HLN.out] at this
      obtain ⟨g, c2, hv, hg, hle⟩ := HR1.out.form' (by omega)
      cases hv
      have hc1 : w1.cell? ⟨g, 0, none⟩ = some (.int .i64 (u[0] : Nat)) := HR1.out.cell 0 (by rw [i64s, List.getElem?_map, List.getElem?_eq_getElem (by omega)]; rfl)
      have HE : Hid (ofL many u (l : Int).toNat n = (List.replicate n 0).set u[0] 1) := Lib.hid (by
        unfold ofL
        rw [if_pos hu1]
        simp [List.getD_eq_getElem?_getD, hu1])
      generalize u[0] = s at *
      have hsz : (s : Int) < (n : Int) := by omega
      have hb1 := Blk.new w1 (i64s (List.replicate n 0)) 3
      have hf1 := hb1.frz s
      have hcc := hb1.cell s (v := .int .i64 0) (by simp [i64s, hlt])
      have hcg : (w1.alloc (.cells (i64s (List.replicate n 0)).toArray 3)).cell? ⟨g, 0, none⟩ = some (.int .i64 (s : Nat)) := ((Upd.refl [] w1).alloc (.cells (i64s (List.replicate n 0)).toArray 3)).at hg (by simp) 0 |>.trans hc1
      have HB1 := Lib.hid hb1
      have HU2 := Lib.hid (HU.out.alloc (.cells (i64s (List.replicate n 0)).toArray 3))
      have HSZ := Lib.hid HU.out.size
      clear hb1 hu1 hg hc1 HK HR1 hle
      go_wp2
      go_ret
      refine ⟨_, u, rfl, HUs.out, .inr ⟨HNB.out, _, rfl, HSZ.out, ?_⟩, HU.out.alloc _⟩
      rw [HE.out, i64s_set]
      exact Blk.new w1 _ _
    · have hk1z : ¬ k = 1 := by omega
      have hk1y : (1 : Int) < (k : Int) := by omega
      have hrow : 2 * k - 2 ≤ (rowC (lvs many u) l).length := by
        have := (len_fit many u l HUs.out.srt (by rw [HK.out]; exact hk1) (by rw [HK.out, HPP.out]; omega)).1
        rwa [HK.out] at this
      have hun : k ≤ n := by
        have := HUs.out.le
        rw [HK.out, HLN.out] at this
        exact this
      have hua : Upd [] w1 (w1.alloc (.cells (i64s (List.replicate n 0)).toArray 3)) := (Upd.refl _ _).alloc _
      obtain ⟨g, c2, hv, hg, hle⟩ := HR1.out.form' (by omega)
      cases hv
      have HF := Lib.hid (fill_any many u l n n w1.heap.size k c1 cap (some ⟨g, 0, none⟩) a _ (Blk.new w1 (i64s (List.replicate n 0)) 3) (fun i hi => ⟨g, 0, rfl, by
          rw [Nat.zero_add]
          exact (hua.at hg (by simp) i).trans (HR1.out.cell i (by rw [i64s, List.getElem?_map, List.getElem?_eq_getElem hi]; rfl))⟩)
        ((HI.out.pure HU.out).pure hua) (by omega) hl2 HK.out hk1 hun (fun s hs => by have := ((HUs.out.mem s).1 hs).1; rwa [HLN.out] at this) hrow)
      clear hrow hun hua hg hle
      go_wp2_with fail
      refine HF.out.mono ?_
      rintro e w4 ⟨rfl, hB4, hU4⟩
      have HB4 := Lib.hid hB4
      have HU4 := Lib.hid hU4
      have HSZ := Lib.hid HU.out.size
      clear hB4 hU4 HF
      go_wp2
      go_ret
      refine ⟨_, u, rfl, HUs.out, .inr ⟨HNB.out, _, rfl, HSZ.out, ?_⟩, (HU.out.alloc _).trans HU4.out (fun q hq => .inr (by simp at hq; have := HSZ.out; omega))⟩
      have e : ofL many u (l : Int).toNat n = (List.range n).map fun s => lenAt many u l s := by
        unfold ofL
        rw [if_neg (by rw [HK.out]; omega), HTN.out]
      rw [e]
      exact HB4.out
end Go.Proofs.Ytdehkaknbmbieaa
