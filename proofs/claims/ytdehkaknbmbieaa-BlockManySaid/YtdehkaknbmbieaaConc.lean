/- slices.Concat of slices of pointers to coins: its walk. -/
import Derived.Test.YtdehkaknbmbieaaCoin
import Derived.Test.YtdehkaknbmbieaaOpen
import Derived.Laws.AppendOwnNone
namespace Go.Proofs.Ytdehkaknbmbieaa
set_option linter.unusedVariables false
set_option linter.unusedSimpArgs false
set_option linter.unusedSectionVars false
open Go.RowKit
set_option linter.unusedVariables false
set_option linter.unusedSimpArgs false

/-- A slice whose elements can be read. -/
def SlC (w : World) (v : Value) (xs : List Value) : Prop := ∃ a c, v = .slice a xs.length c ∧ xs.length ≤ c ∧ (a = none → c = 0) ∧ ∀ i, (hi : i < xs.length) → ∃ b o, a = some ⟨b, o, none⟩ ∧ w.cell? ⟨b, o + i, none⟩ = some xs[i]
theorem cellLt {w : World} {b o : Nat} {u : Value} (h : w.cell? ⟨b, o, none⟩ = some u) : b < w.heap.size := World.block_lt_of_cell? w ⟨b, o, none⟩ h
theorem SlC.upd {w w' : World} {v : Value} {xs : List Value} (h : SlC w v xs) (hu : Upd [] w w') : SlC w' v xs := by
  obtain ⟨a, c, h1, h2, h3, h4⟩ := h
  refine ⟨a, c, h1, h2, h3, fun i hi => ?_⟩
  obtain ⟨b, o, e, hc⟩ := h4 i hi
  exact ⟨b, o, e, (hu.at (cellLt hc) (by simp) (o + i)).trans hc⟩
theorem SlC.nil (w : World) : SlC w (.slice none 0 0) [] := ⟨none, 0, rfl, Nat.le_refl _, fun _ => rfl, fun i hi => by simp at hi⟩
theorem Row.slC {w : World} {e : TypeId} {v : Value} {n : Nat} {xs : List Value} (h : Row w e 1 v n xs) : SlC w v xs := by
  have hl := h.len
  rcases h.2 with ⟨rfl, h0⟩ | ⟨g, cap, cur, rfl, _, hh, hc, _, _, _⟩
  · have : xs = [] := List.eq_nil_of_length_eq_zero (by omega)
    subst this
    exact SlC.nil w
  · refine ⟨some ⟨g, 0, none⟩, cap, by rw [hl, Nat.mul_one], by omega, (fun e => by cases e), fun i hi => ⟨g, 0, rfl, ?_⟩⟩
    rw [Nat.zero_add]
    exact h.cell i (List.getElem?_eq_getElem hi)
theorem OwnC.slC {w0 w : World} {v : Value} {xs : List Value} (h : OwnC w0 w v xs) : SlC w v xs := h.1.slC
set_option maxRecDepth 100000 in
set_option maxHeartbeats 6400000 in
theorem concat_any (vs : List Value) (xss : List (List Value)) (q k : Nat) (w : World) (hB : Blk w q vs 117) (hk : vs.length = k) (hx : xss.length = k) (hk9 : k ≤ 9)
    (hS : ∀ (i : Nat) (v : Value) (x : List Value), vs[i]? = some v → xss[i]? = some x → SlC w v x) (hone : ∀ x ∈ xss, ∀ u ∈ x, u.oneCell' = true) (h0 : 0 < xss.flatten.length) (hm : xss.flatten.length ≤ 100000) :
    Calls Try.prog 101 #[.slice (some ⟨q, 0, none⟩) k k] w fun e w' => ∃ v, e = .returned v ∧ OwnC w w' v xss.flatten ∧ Upd [] w w' := by
  obtain ⟨i0, hi, hz0, hz1, hz2⟩ := info_parts infoCp
  have HB := Lib.hid hB
  have HS := Lib.hid hS
  have HKV := Lib.hid hk
  have HONE := Lib.hid hone
  have HKX := Lib.hid hx
  have hsum : ∀ i, (xss.take i).flatten.length ≤ xss.flatten.length := fun i => by
    conv => rhs; rw [← List.take_append_drop i xss, List.flatten_append, List.length_append]
    omega
  have HSM := Lib.hid hsum
  obtain ⟨T, hT⟩ : ∃ T, xss.flatten.length = T := ⟨_, rfl⟩
  rw [hT] at h0 hm HSM
  have HT := Lib.hid hT
  clear hB hS hk hx hsum hT hone
  have hkz : (k : Int) ≤ 9 := by omega
  have hTz : (0 : Int) < (T : Int) := by omega
  go_enter Try.func101, Try.ntmps101
  go_wp2
  go_loopg [3, 11] k (fun gg s3 s11 wr => ∃ i, i ≤ k ∧ gg = k - i ∧ s11 = .int .i64 (i : Nat) ∧ s3 = .int .i64 ((xss.take i).flatten.length : Nat) ∧ wr = w)
  case atStart => exact ⟨0, Nat.zero_le _, rfl, rfl, by simp, rfl⟩
  case round =>
    obtain ⟨i, hin, rfl, rfl, rfl, hwr⟩ := hrel
    subst hwr
    have hsi := HSM.out i
    by_cases hc : i < k
    · have hcz : (i : Int) < (k : Int) := by omega
      have hi1 : i < vs.length := by rw [HKV.out]; exact hc
      have hi2 : i < xss.length := by rw [HKX.out]; exact hc
      have d := HB.out.cell i (List.getElem?_eq_getElem hi1)
      obtain ⟨a1, c1, hv, hlc, han, hcl⟩ := HS.out i _ _ (List.getElem?_eq_getElem hi1) (List.getElem?_eq_getElem hi2)
      have hst : (xss.take (i + 1)).flatten.length = (xss.take i).flatten.length + xss[i].length := by
        rw [List.take_succ_eq_append_getElem hi2, List.flatten_append, List.length_append]; simp
      have hs2 := HSM.out (i + 1)
      have HST := Lib.hid hst
      rw [hst] at hs2
      clear hcl hlc han
      generalize vs[i] = V at *
      subst hv
      generalize xss[i].length = m at *
      generalize (xss.take i).flatten.length = t at *
      clear hst hi1 hi2
      have d0 : wr.cell? ⟨q, 0 + i, none⟩ = some (.slice a1 m c1) := by rw [Nat.zero_add]; exact d
      go_wp2
      go_roundg (k - (i + 1))
      · exact ⟨i + 1, by omega, rfl, by first | rfl | go_num, by rw [HST.out]; first | rfl | go_num, rfl⟩
      · omega
    · have hcz : ¬ (i : Int) < (k : Int) := by omega
      obtain rfl : i = k := by omega
      have hfl : (xss.take i).flatten.length = T := by rw [List.take_of_length_le (by rw [HKX.out]; exact Nat.le_refl _), HT.out]
      rw [hfl]
      clear hfl hsi
      go_wp2_with fail
      refine (growNil_any T _ h0 (by omega)).mono ?_
      rintro e w1 ⟨v, rfl, hO1, hU1, gg, cc, rfl⟩
      have HO1 := Lib.hid hO1
      have HU1 := Lib.hid hU1
      clear hO1 hU1
      go_wp2
      go_loopg [6, 27] i (fun gg s6 s27 wx => ∃ j, j ≤ i ∧ gg = i - j ∧ s27 = .int .i64 (j : Nat) ∧ Hid (OwnC wr wx s6 (xss.take j).flatten) ∧ Hid (Upd [] wr wx))
      case atStart => exact ⟨0, Nat.zero_le _, rfl, rfl, HO1, HU1⟩
      case round =>
        obtain ⟨wo, rfl⟩ : ∃ wo : World, wo = wr := ⟨_, rfl⟩
        obtain ⟨j, hji, rfl, rfl, HO, HU⟩ := hrel
        by_cases hc2 : j < i
        · have hcz2 : (j : Int) < (i : Int) := by omega
          have hi1 : j < vs.length := by rw [HKV.out]; exact hc2
          have hi2 : j < xss.length := by rw [HKX.out]; exact hc2
          have d := (HB.out.upd HU.out (by simp)).cell j (List.getElem?_eq_getElem hi1)
          have hsl := (HS.out j _ _ (List.getElem?_eq_getElem hi1) (List.getElem?_eq_getElem hi2)).upd HU.out
          have HFT : Hid ((xss.take (j + 1)).flatten = (xss.take j).flatten ++ xss[j]) := Lib.hid (by
            rw [List.take_succ_eq_append_getElem hi2, List.flatten_append]; simp)
          have hs2 := HSM.out (j + 1)
          rw [HFT.out, List.length_append] at hs2
          generalize vs[j] = V at *
          have HOX := Lib.hid (HONE.out _ (List.getElem_mem hi2))
          generalize xss[j] = X at *
          generalize (xss.take j).flatten = F at *
          obtain ⟨F2, hF2⟩ : ∃ F2, (xss.take (j + 1)).flatten = F2 := ⟨_, rfl⟩
          rw [hF2] at HFT
          have HF2 := Lib.hid hF2
          clear hF2
          obtain ⟨a1, c1, hv, hlc, han, hcl⟩ := hsl
          subst hv
          have d0 := d
          rw [← Nat.zero_add j] at d0
          obtain ⟨va, vc, rfl⟩ := HO.out.form
          obtain ⟨fl, hfl⟩ : ∃ fl, F.length = fl := ⟨_, rfl⟩
          obtain ⟨xl, hxl⟩ : ∃ xl, X.length = xl := ⟨_, rfl⟩
          rw [hfl, hxl] at hs2
          rw [hfl] at HO ⊢
          have HFL := Lib.hid hfl
          have HXL := Lib.hid hxl
          have hR5 := HO.out.1
          rw [hfl] at hR5
          clear hi1 hi2
          cases a1 with
          | none =>
            have hc0 := han rfl
            subst hc0
            have hx0 : xl = 0 := by omega
            have hX : X = [] := List.eq_nil_of_length_eq_zero (by omega)
            rw [hX, List.append_nil] at HFT
            rw [hxl, hx0] at d d0
            have HO2 := Lib.hid HO.out
            rw [← HFT.out] at HO2
            clear hcl hlc hX hfl hxl han
            go_wp2_with (at_builtin; refine wpList_append_own_none rfl _ _ 117 rfl 0 118 i0 1 Try.underlying117 hi (.slice va fl vc) fl _ rfl hR5 rfl ?_)
            go_wp2
            go_roundg (i - (j + 1))
            · exact ⟨j + 1, by omega, rfl, by first | rfl | go_num, Lib.hid (by rw [HF2.out]; exact HO2.out), HU⟩
            · omega
          | some ad =>
            rw [hxl] at d d0
            have hnw : ∀ t u, X[t]? = some u → wo.cell? (ad.add t) = some u := fun t u ht => by
              obtain ⟨ht1, ht2⟩ := List.getElem?_eq_some_iff.1 ht
              obtain ⟨b, o, hbo, hcc⟩ := hcl t ht1
              cases hbo
              rw [add_flat, hcc, ht2]
            have HNW := Lib.hid hnw
            clear hcl hlc han hnw
            go_wp2_with (at_builtin; refine wpList_app _ rfl _ _ 117 rfl 118 i0 _ 1 8 Try.underlying117 hi hz0 hz1 hz2 rfl (by omega) (.slice va fl vc) fl _ rfl hR5 ad xl c1 X rfl (by rw [hxl, Nat.mul_one]) HNW.out HOX.out (by unfold maxLen; omega) (by omega) ?_)
            intro v4 w4 hR4 hU4 hT4
            have hap := HO.out.app HU.out (ys := X) (by rw [HFL.out, HXL.out]; exact hR4) hU4 hT4
            rw [← HFT.out] at hap
            have HAP := Lib.hid hap
            clear hR4 hU4 hT4 hap hR5
            go_wp2
            go_roundg (i - (j + 1))
            · exact ⟨j + 1, by omega, rfl, by first | rfl | go_num, Lib.hid (by rw [HF2.out]; exact HAP.out.1), Lib.hid HAP.out.2⟩
            · omega
        · have hcz2 : ¬ (j : Int) < (i : Int) := by omega
          obtain rfl : j = i := by omega
          have hfl : (xss.take j).flatten = xss.flatten := by rw [List.take_of_length_le (by rw [HKX.out]; exact Nat.le_refl _)]
          rw [hfl] at HO
          clear hfl
          go_wp2
          go_ret
          exact ⟨_, rfl, HO.out, HU.out⟩
end Go.Proofs.Ytdehkaknbmbieaa
