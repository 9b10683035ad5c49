/- Steps of runs are read as the row that they were made of (plain). -/
import Derived.Test.YtdehkaknbmbieaaGreatQAQ
import Derived.Test.YtdehkaknbmbieaaGreatQAW
import Derived.Test.YtdehkaknbmbieaaGreatQAC
import Derived.Test.YtdehkaknbmbieaaGreatQAE
namespace Go.Proofs.YtdehkaknbmbieaaGreat
set_option linter.unusedVariables false
set_option linter.unusedSimpArgs false
set_option linter.unusedSectionVars false
set_option linter.unusedVariables false
set_option linter.unusedSimpArgs false

def bitsN (s : Nat) : Nat := if s ≤ 15 then 0 else if s = 16 then 2 else if s = 17 then 3 else 7
def timesN (s : StpD) : Nat := if s.sym = 16 then 3 + s.more else if s.sym = 17 then 3 + s.more else if s.sym = 18 then 11 + s.more else 1
def valN (out : List Nat) (s : StpD) : Nat := if s.sym = 16 then out.getD (out.length - 1) 0 else if s.sym = 17 then 0 else if s.sym = 18 then 0 else s.sym
def dec1 (out : List Nat) (s : StpD) : List Nat := out ++ List.replicate (timesN s) (valN out s)
/-- The row of steps. -/
def decS (l : List StpD) : List Nat := l.foldl dec1 []
structure OkS (out : List Nat) (s : StpD) : Prop where
  sym : s.sym ≤ 18
  bits : s.bits = bitsN s.sym
  more : s.more < 2 ^ bitsN s.sym
  some : s.sym = 16 → out ≠ []
  room : out.length + timesN s ≤ 400
def okAll : List Nat → List StpD → Prop
  | _, [] => True
  | out, s :: r => OkS out s ∧ okAll (dec1 out s) r
theorem okAll_at : ∀ (l : List StpD) (out : List Nat), okAll out l → ∀ i (h : i < l.length), OkS ((l.take i).foldl dec1 out) l[i]
  | [], _, _, i, h => absurd h (by simp)
  | s :: l, out, hk, 0, _ => hk.1
  | s :: l, out, hk, i + 1, h => okAll_at l (dec1 out s) hk.2 i (by simpa using h)
theorem runC_take (k : Int) : ∀ (r : List Int) (j : Nat), j ≤ runC k r → r.take j = List.replicate j k
  | _, 0, _ => by simp
  | [], j + 1, h => by simp [runC] at h
  | x :: r, j + 1, h => by
    rw [runC] at h
    split at h
    · rename_i hx
      rw [List.take_succ_cons, List.replicate_succ, runC_take k r j (by omega), hx]
    · omega
theorem runC_neg : ∀ (r : List Int), (∀ x ∈ r, 0 ≤ x ∧ x ≤ 15) → runC (-1) r = 0
  | [], _ => rfl
  | x :: r, h => by
    have := h x List.mem_cons_self
    rw [runC, if_neg (by omega)]
/-- Is ah the last number ahead of a row? -/
def isAh (out : List Nat) (ah : Int) : Prop := (out = [] ∧ ah = -1) ∨ (out ≠ [] ∧ ah = ((out.getD (out.length - 1) 0 : Nat) : Int))
theorem map_rep (j : Nat) (k : Int) : (List.replicate j k).map Int.toNat = List.replicate j k.toNat := by simp
theorem next_dec (r : List Int) (ah : Int) (out : List Nat) (hr : r ≠ []) (hb : ∀ x ∈ r, 0 ≤ x ∧ x ≤ 15) (hl : out.length + r.length ≤ 400) (ha : isAh out ah) :
    OkS out (nextS r ah).1 ∧ dec1 out (nextS r ah).1 = out ++ (r.take (nextS r ah).2).map Int.toNat := by
  have hz := runC_le 0 r
  have hg := runC_le ah r
  unfold nextS
  split
  · rename_i h
    have e : min (runC 0 r) 138 = (stepOf 18 (runC 0 r)).2 := rfl
    refine ⟨⟨by show 18 ≤ 18; omega, rfl, ?_, fun h => absurd (show (18 : Nat) = 16 from h) (by decide), ?_⟩, ?_⟩
    · show min (runC 0 r) 138 - 11 < 128; omega
    · show out.length + (11 + (min (runC 0 r) 138 - 11)) ≤ 400; omega
    · show out ++ List.replicate (11 + (min (runC 0 r) 138 - 11)) 0 = out ++ (r.take (min (runC 0 r) 138)).map Int.toNat
      rw [runC_take 0 r _ (by omega), map_rep, show 11 + (min (runC 0 r) 138 - 11) = min (runC 0 r) 138 by omega]
      rfl
  · split
    · rename_i h1 h2
      refine ⟨⟨by show 17 ≤ 18; omega, rfl, ?_, fun h => absurd (show (17 : Nat) = 16 from h) (by decide), ?_⟩, ?_⟩
      · show min (runC 0 r) 10 - 3 < 8; omega
      · show out.length + (3 + (min (runC 0 r) 10 - 3)) ≤ 400; omega
      · show out ++ List.replicate (3 + (min (runC 0 r) 10 - 3)) 0 = out ++ (r.take (min (runC 0 r) 10)).map Int.toNat
        rw [runC_take 0 r _ (by omega), map_rep, show 3 + (min (runC 0 r) 10 - 3) = min (runC 0 r) 10 by omega]
        rfl
    · split
      · rename_i h1 h2 h3
        have hne : out ≠ [] ∧ ah = ((out.getD (out.length - 1) 0 : Nat) : Int) := by
          rcases ha with ⟨_, h⟩ | h
          · rw [h, runC_neg r hb] at h3; omega
          · exact h
        refine ⟨⟨by show 16 ≤ 18; omega, rfl, ?_, fun _ => hne.1, ?_⟩, ?_⟩
        · show min (runC ah r) 6 - 3 < 4; omega
        · show out.length + (3 + (min (runC ah r) 6 - 3)) ≤ 400; omega
        · show out ++ List.replicate (3 + (min (runC ah r) 6 - 3)) (out.getD (out.length - 1) 0) = out ++ (r.take (min (runC ah r) 6)).map Int.toNat
          rw [runC_take ah r _ (by omega), map_rep, show 3 + (min (runC ah r) 6 - 3) = min (runC ah r) 6 by omega, hne.2]
          simp
      · cases r with
        | nil => exact absurd rfl hr
        | cons x r =>
          have hx := hb x List.mem_cons_self
          have hx15 : x.toNat ≤ 15 := by omega
          simp only [List.length_cons] at hl
          refine ⟨⟨?_, ?_, ?_, fun h => ?_, ?_⟩, ?_⟩
          · show x.toNat ≤ 18; omega
          · show 0 = bitsN x.toNat; unfold bitsN; rw [if_pos hx15]
          · show 0 < 2 ^ bitsN x.toNat; exact Nat.two_pow_pos _
          · have : x.toNat = 16 := h
            omega
          · show out.length + timesN ⟨x.toNat, 0, 0⟩ ≤ 400
            unfold timesN
            dsimp only
            rw [if_neg (by omega), if_neg (by omega), if_neg (by omega)]
            omega
          · show dec1 out ⟨x.toNat, 0, 0⟩ = out ++ ((x :: r).take 1).map Int.toNat
            unfold dec1 timesN valN
            dsimp only
            rw [if_neg (by omega), if_neg (by omega), if_neg (by omega), if_neg (by omega), if_neg (by omega), if_neg (by omega)]
            rfl
theorem getD_snocs (out : List Nat) (r : List Int) (k : Nat) (h1 : 1 ≤ k) (h2 : k ≤ r.length) (hb : ∀ x ∈ r, 0 ≤ x ∧ x ≤ 15) :
    r.getD (k - 1) 0 = (((out ++ (r.take k).map Int.toNat).getD ((out ++ (r.take k).map Int.toNat).length - 1) 0 : Nat) : Int) := by
  have hl : (out ++ (r.take k).map Int.toNat).length = out.length + k := by simp; omega
  have hk : k - 1 < r.length := by omega
  rw [hl, List.getD_eq_getElem?_getD, List.getD_eq_getElem?_getD, List.getElem?_append_right (by omega), show out.length + k - 1 - out.length = k - 1 by omega, List.getElem?_map, List.getElem?_take, if_pos (by omega), List.getElem?_eq_getElem hk]
  have := hb _ (List.getElem_mem hk)
  simp
  omega
/-- What is laid in runs is read as it was. -/
theorem ofS_dec : ∀ (f : Nat) (r : List Int) (ah : Int) (out : List Nat), r.length ≤ f → (∀ x ∈ r, 0 ≤ x ∧ x ≤ 15) → out.length + r.length ≤ 400 → isAh out ah →
    okAll out (ofS f r ah) ∧ (ofS f r ah).foldl dec1 out = out ++ r.map Int.toNat
  | 0, r, ah, out, h, _, _, _ => by
    have : r = [] := List.eq_nil_of_length_eq_zero (by omega)
    subst this
    exact ⟨trivial, by simp [ofS]⟩
  | f + 1, r, ah, out, h, hb, hl, ha => by
    rw [ofS_succ]
    by_cases hr : r = []
    · rw [if_pos hr, hr]
      exact ⟨trivial, by simp⟩
    · rw [if_neg hr]
      obtain ⟨k1, k2⟩ := nextS_len r ah hr
      obtain ⟨o1, o2⟩ := next_dec r ah out hr hb hl ha
      have hd : (r.drop (nextS r ah).2).length = r.length - (nextS r ah).2 := List.length_drop
      have hdl : (dec1 out (nextS r ah).1).length = out.length + (nextS r ah).2 := by rw [o2]; simp; omega
      obtain ⟨i1, i2⟩ := ofS_dec f (r.drop (nextS r ah).2) (r.getD ((nextS r ah).2 - 1) 0) (dec1 out (nextS r ah).1) (by omega) (fun x hx => hb x (List.mem_of_mem_drop hx)) (by omega)
        (.inr ⟨fun e => by rw [e] at hdl; simp at hdl; omega, by rw [o2]; exact getD_snocs out r _ k1 k2 hb⟩)
      refine ⟨⟨o1, i1⟩, ?_⟩
      rw [List.foldl_cons, i2, o2, List.append_assoc, ← List.map_append, List.take_append_drop]
end Go.Proofs.YtdehkaknbmbieaaGreat
namespace Go.Proofs.YtdehkaknbmbieaaGreat
set_option linter.unusedVariables false
set_option linter.unusedSimpArgs false
set_option linter.unusedSectionVars false
set_option linter.unusedVariables false

theorem roomP_sum (L : Nat) (ks : List Nat) : roomP L ks = sumN ks.length (fun i => 2 ^ (L - ks.getD i 0)) := by
  unfold roomP sumN
  congr 1
  apply List.ext_getElem
  · simp
  · intro i h1 h2
    have hi : i < ks.length := by simpa using h2
    simp [List.getD_eq_getElem?_getD, hi]
end Go.Proofs.YtdehkaknbmbieaaGreat
namespace Go.Proofs.YtdehkaknbmbieaaGreat
set_option linter.unusedVariables false
set_option linter.unusedSimpArgs false
set_option linter.unusedSectionVars false
set_option linter.unusedVariables false

/-- What lengths cost. -/
def costN (many : List Int) (l : List Nat) (n : Nat) : Nat := sumN n (fun i => l.getD i 0 * nearN (many.getD i 0))
/-- What these lengths cost in order. -/
def costU (many : List Int) (u ks : List Nat) : Nat := sumN u.length (fun i => nearN (many.getD (u.getD i 0) 0) * ks.getD i 0)
theorem of_least {many : List Int} {n : Nat} {u : List Nat} (hu : IsUsed many n u) (L : Nat) (h2 : 2 ≤ u.length) (hk : u.length ≤ 2 ^ L) :
    (∃ ks : List Nat, ks.length = u.length ∧ (∀ k ∈ ks, k ≤ L) ∧ roomP L ks = 2 ^ L ∧ costN many (ofL many u L n) n = costU many u ks) ∧
    ∀ ks : List Nat, ks.length = u.length → (∀ k ∈ ks, k ≤ L) → roomP L ks ≤ 2 ^ L → costN many (ofL many u L n) n ≤ costU many u ks := by
  obtain ⟨_, c, c1, c2, c3, c4, c5, c6⟩ := len_fit many u L hu.srt h2 hk
  have hlt : ∀ s ∈ u, s < n := fun s hs => ((hu.mem s).1 hs).1
  have hc : ∀ i, i < u.length → lenAt many u L (u.getD i 0) = c i := fun i hi => by
    rw [List.getD_eq_getElem?_getD, List.getElem?_eq_getElem hi]
    exact c4 i hi
  have hC : costN many (ofL many u L n) n = sumN u.length (fun i => nearN (many.getD (u.getD i 0) 0) * c i) := by
    unfold costN
    rw [ofL_big (by omega)]
    rw [sum_off n _ u hu.nodup hlt (fun s hs hsu => by rw [getD_range n _ s hs, c5 s hsu, Nat.zero_mul]), sum_at]
    exact sumN_congr fun i hi => by rw [getD_range n _ _ (hlt _ (getD_mem hi)), hc i hi, Nat.mul_comm]
  have hkg : ∀ i, i < u.length → ((List.range u.length).map c).getD i 0 = c i := fun i hi => getD_range _ _ i hi
  refine ⟨⟨(List.range u.length).map c, by simp, fun k hk => ?_, ?_, ?_⟩, fun ks h1 h2 h3 => ?_⟩
  · obtain ⟨i, hi, rfl⟩ := List.mem_map.1 hk
    exact (c1 i (List.mem_range.1 hi)).2
  · rw [roomP_sum, show ((List.range u.length).map c).length = u.length by simp, ← c3]
    exact sumN_congr fun i hi => by rw [hkg i hi]
  · rw [hC]
    exact sumN_congr fun i hi => by rw [hkg i hi]
  · rw [hC]
    exact c6 ks h1 h2 h3
theorem roomP_up (L : Nat) : ∀ ks : List Nat, (∀ k ∈ ks, k ≤ L) → roomP (L + 1) ks = 2 * roomP L ks
  | [], _ => rfl
  | k :: ks, h => by
    rw [roomP_cons, roomP_cons, roomP_up L ks fun x hx => h x (List.mem_cons_of_mem _ hx), show L + 1 - k = (L - k) + 1 by have := h k List.mem_cons_self; omega, Nat.pow_succ]
    omega
theorem of_few (many many2 : List Int) (u : List Nat) (L L2 n : Nat) (h : u.length < 2) : ofL many u L n = ofL many2 u L2 n := by
  rcases Nat.lt_or_ge u.length 1 with h0 | h0
  · have hu0 : u = [] := List.eq_nil_of_length_eq_zero (by omega)
    subst hu0
    unfold ofL
    rw [if_neg (by simp), if_neg (by simp)]
    simp [lenAt, sumC]
  · unfold ofL
    rw [if_pos (by omega), if_pos (by omega)]
/-- With a greater limit lengths cost no more. -/
theorem cost_more {many : List Int} {n : Nat} {u : List Nat} (hu : IsUsed many n u) (L : Nat) (hk : u.length ≤ 2 ^ L) :
    costN many (ofL many u (L + 1) n) n ≤ costN many (ofL many u L n) n := by
  rcases Nat.lt_or_ge u.length 2 with h2 | h2
  · rw [of_few many many u (L + 1) L n h2]
    exact Nat.le_refl _
  · obtain ⟨ks, k1, k2, k3, k4⟩ := (of_least hu L h2 hk).1
    have := (of_least hu (L + 1) h2 (by rw [Nat.pow_succ]; omega)).2 ks k1 (fun k hk => by have := k2 k hk; omega) (by rw [roomP_up L ks k2, k3, Nat.pow_succ]; omega)
    rw [k4]
    exact this
end Go.Proofs.YtdehkaknbmbieaaGreat
namespace Go.Proofs.YtdehkaknbmbieaaGreat
set_option linter.unusedVariables false
set_option linter.unusedSimpArgs false
set_option linter.unusedSectionVars false
open Go.RowKit

theorem kindN_cases (n : List Nat) : (wsum n = 0 ∧ kindN n = 0) ∨ (0 < wsum n ∧ wsum n < 32768 ∧ kindN n = 2) ∨ (wsum n = 32768 ∧ kindN n = 1) ∨ (32768 < wsum n ∧ kindN n = 3) := by
  unfold kindN
  by_cases h1 : wsum n = 0
  · simp [h1]
  · by_cases h2 : wsum n < 32768
    · simp [h1, h2]; omega
    · by_cases h3 : wsum n = 32768
      · simp [h3]
      · simp [h1, h2, h3]; omega

set_option maxRecDepth 100000 in
set_option maxHeartbeats 3200000 in
theorem rkind_any (a : Option Addr) (len cap : Nat) (l : List Int) (w : World) (hlen : len ≤ 9223372036854775807) (hI : IntsIn w a len l) :
    Calls Tryz.prog 66 #[.slice a len cap] w fun e w' => e = .returned (.int .i64 (kindOf l : Nat)) ∧ w = w' := by
  have hll := hI.len
  have HI := Lib.hid hI
  clear hI
  subst hll
  by_cases hlong : 300 < l.length
  · have hnz : ((l.length : Nat) : Int) > 300 := by omega
    have hk := Lib.hid (show kindOf l = 3 by unfold kindOf; rw [if_neg (by rw [okLens_long hlong]; decide)])
    clear hlong
    go_enter Tryz.func66, Tryz.ntmps66
    go_wp2
    go_returns
    exact ⟨by rw [hk.out]; rfl, rfl⟩
  · have hnz : ¬ ((l.length : Nat) : Int) > 300 := by omega
    go_enter Tryz.func66, Tryz.ntmps66
    go_wp2
    go_loopg [3, 13] l.length (fun g s3 s13 wr => ∃ i, i ≤ l.length ∧ g = l.length - i ∧ s13 = .int .i64 (i : Nat) ∧ s3 = .int .i64 (wsum (nats (l.take i)) : Nat) ∧ okLens (l.take i) = true ∧ w = wr)
    case atStart => exact ⟨0, by omega, rfl, rfl, rfl, okLens_mk (by simp) (by simp), rfl⟩
    case round =>
      obtain ⟨i, hin, rfl, rfl, rfl, hok, rfl⟩ := hrel
      have hle : wsum (nats (l.take i)) ≤ 300 * 32768 := wsum_le _ (by rw [length_nats, List.length_take]; omega)
      by_cases hc : i < l.length
      · have hcz : (i : Int) < (l.length : Int) := by omega
        obtain ⟨b, off, rfl, c0, r1, r2⟩ := HI.out.cell i hc
        by_cases hb : 0 ≤ l[i] ∧ l[i] ≤ 15
        · obtain ⟨hb0, hb15⟩ := hb
          have hok2 := Lib.hid (okLens_take hc hok (by omega) hb0 hb15)
          obtain ⟨k, hk⟩ : ∃ k : Nat, l[i] = (k : Int) := ⟨l[i].toNat, by omega⟩
          have hn2 := Lib.hid (show wsum (nats (l.take (i + 1))) = wsum (nats (l.take i)) + wt k by rw [take_snoc' l i hc, ← wsum_snoc]; simp [nats, hk])
          rw [hk] at c0 hb0 hb15
          clear hk r1 r2 hok
          generalize wsum (nats (l.take i)) = s at *
          go_wp2
          go_loopg [6, 7] k (fun g s6 s7 wx => ∃ j, j ≤ k ∧ g = k - j ∧ s7 = .int .i64 (j : Nat) ∧ s6 = .int .i64 ((2 ^ (15 - j) : Nat) : Int) ∧ w = wx)
          case atStart => exact ⟨0, by omega, rfl, rfl, rfl, rfl⟩
          case round =>
            obtain ⟨j, hj, rfl, rfl, rfl, rfl⟩ := hrel
            have hp : 2 ^ (15 - j) ≤ 2 ^ 15 := Nat.pow_le_pow_right (by omega) (by omega)
            by_cases hjk : j < k
            · have hjz : (j : Int) < (k : Int) := by omega
              have hpp := Lib.hid (show 2 ^ (15 - j) / 2 = 2 ^ (15 - (j + 1)) by rw [show 15 - j = (15 - (j + 1)) + 1 by omega, Nat.pow_succ, Nat.mul_div_cancel _ (by omega)])
              generalize 2 ^ (15 - j) = p at *
              go_wp2
              go_roundg (k - (j + 1))
              case measure => omega
              case rel => exact ⟨j + 1, by omega, rfl, by go_num, by rw [← hpp.out]; simp, rfl⟩
            · have hjz : ¬ (j : Int) < (k : Int) := by omega
              have hjk' : j = k := by omega
              by_cases hk0 : k = 0
              · have hkz : ¬ (0 : Int) < (k : Int) := by omega
                have hw0 := Lib.hid (show wt k = 0 by unfold wt; rw [if_pos hk0])
                clear hk0 hjk'
                generalize 2 ^ (15 - j) = p at *
                go_wp2
                go_roundg (l.length - (i + 1))
                case measure => omega
                case rel => exact ⟨i + 1, by omega, rfl, by go_num, by rw [hn2.out, hw0.out]; rfl, hok2.out, rfl⟩
              · have hkz : (0 : Int) < (k : Int) := by omega
                have hw0 := Lib.hid (show wt k = 2 ^ (15 - j) by unfold wt; rw [if_neg hk0, hjk'])
                clear hk0 hjk'
                generalize 2 ^ (15 - j) = p at *
                go_wp2
                go_roundg (l.length - (i + 1))
                case measure => omega
                case rel => exact ⟨i + 1, by omega, rfl, by go_num, by rw [hn2.out, hw0.out]; simp, hok2.out, rfl⟩
        · have hk := Lib.hid (show kindOf l = 3 by unfold kindOf; rw [if_neg (by rw [okLens_not hc hb]; decide)])
          generalize wsum (nats (l.take i)) = s at *
          by_cases hb0 : l[i] < 0
          · generalize l[i] = x at *
            clear hb
            go_wp2
            go_returns
            exact ⟨by rw [hk.out]; rfl, rfl⟩
          · have hb15 : 15 < l[i] := by omega
            generalize l[i] = x at *
            clear hb
            go_wp2
            go_returns
            exact ⟨by rw [hk.out]; rfl, rfl⟩
      · have hcz : ¬ (i : Int) < (l.length : Int) := by omega
        have hi : i = l.length := by omega
        rw [hi, List.take_length] at hok hle
        have e : wsum (nats (l.take i)) = wsum (nats l) := by rw [hi, List.take_length]
        rw [e]
        have hkind := Lib.hid (show kindOf l = kindN (nats l) by unfold kindOf; rw [if_pos hok])
        have hkc := kindN_cases (nats l)
        clear hi e hle
        generalize wsum (nats l) = s at *
        rcases hkc with ⟨h0, hkn⟩ | ⟨h0, h1, hkn⟩ | ⟨h0, hkn⟩ | ⟨h0, hkn⟩
        · have HK := Lib.hid hkn
          have hs : (s : Int) = 0 := by omega
          clear hkn
          go_wp2
          go_returns
          exact ⟨by rw [hkind.out, HK.out]; rfl, rfl⟩
        · have HK := Lib.hid hkn
          have hs1 : ((s : Int) == 0) = false := by simp; omega
          have hs3 : ((s : Int) == 32768) = false := by simp; omega
          have hs2 : decide ((s : Int) < 32768) = true := by simp; omega
          clear hkn h0 h1
          go_wp2
          go_returns
          exact ⟨by rw [hkind.out, HK.out]; rfl, rfl⟩
        · have HK := Lib.hid hkn
          have hs : (s : Int) = 32768 := by omega
          clear hkn
          go_wp2
          go_returns
          exact ⟨by rw [hkind.out, HK.out]; rfl, rfl⟩
        · have HK := Lib.hid hkn
          have hs1 : ((s : Int) == 0) = false := by simp; omega
          have hs3 : ((s : Int) == 32768) = false := by simp; omega
          have hs2 : decide ((s : Int) < 32768) = false := by simp; omega
          clear hkn h0
          go_wp2
          go_returns
          exact ⟨by rw [hkind.out, HK.out]; rfl, rfl⟩

end Go.Proofs.YtdehkaknbmbieaaGreat
namespace Go.Proofs.YtdehkaknbmbieaaGreat
set_option linter.unusedVariables false
set_option linter.unusedSimpArgs false
set_option linter.unusedSectionVars false
open Go.RowKit
set_option linter.unusedVariables false

def usedI (l : List Int) : Nat := l.countP fun k => decide (0 < k)
def oneI (l : List Int) : Nat := l.countP fun k => decide (k = 1)
def lensOk (l : List Int) : Bool := decide (kindOf l = 1) || (decide (usedI l = 1) && decide (oneI l = 1))
theorem usedI_take {l : List Int} {i : Nat} (h : i < l.length) : usedI (l.take (i + 1)) = usedI (l.take i) + if 0 < l[i] then 1 else 0 := by
  unfold usedI; rw [take_snoc' l i h, List.countP_append]; simp [List.countP_cons]
theorem usedI_le (l : List Int) : usedI l ≤ l.length := List.countP_le_length
def lastPos (l : List Int) : Int := (l.filter fun k => decide (0 < k)).getLastD 0
theorem lastPos_take {l : List Int} {i : Nat} (h : i < l.length) : lastPos (l.take (i + 1)) = if 0 < l[i] then l[i] else lastPos (l.take i) := by
  unfold lastPos
  rw [take_snoc' l i h, List.filter_append]
  by_cases hp : 0 < l[i]
  · rw [if_pos hp, List.filter_cons_of_pos (by simpa using hp), List.filter_nil, List.getLastD_eq_getLast?]
    simp
  · rw [if_neg hp, List.filter_cons_of_neg (by simpa using hp), List.filter_nil, List.append_nil]
theorem lensOk_ref (l : List Int) : lensOk l = (decide (kindOf l = 1) || (decide (usedI l = 1) && decide (lastPos l = 1))) := by
  unfold lensOk
  by_cases hu : usedI l = 1
  · have hf : (l.filter fun k => decide (0 < k)).length = 1 := by rw [← List.countP_eq_length_filter]; exact hu
    obtain ⟨x, hx⟩ := List.length_eq_one_iff.1 hf
    have hone : oneI l = if x = 1 then 1 else 0 := by
      have e : oneI l = (l.filter fun k => decide (0 < k)).countP fun k => decide (k = 1) := by
        unfold oneI
        rw [List.countP_filter]
        congr 1
        funext k
        by_cases h : k = 1
        · simp [h]
        · simp [h]
      rw [e, hx]
      by_cases h : x = 1 <;> simp [h]
    have hl : lastPos l = x := by unfold lastPos; rw [hx]; rfl
    rw [hl, hone]
    by_cases h : x = 1 <;> simp [h]
  · simp [hu]
set_option maxRecDepth 100000 in
set_option maxHeartbeats 1600000 in
theorem rlengths_any (x : Option Addr) (cap : Nat) (l : List Int) (w : World) (hlen : l.length ≤ 100000) (hI : IntsIn w x l.length l) :
    Calls Tryz.prog 69 #[.slice x l.length cap] w fun e w' => e = .returned (.bool (lensOk l)) ∧ w = w' := by
  have HK := Lib.hid (rkind_any x l.length cap l w (by omega) hI)
  have HI := Lib.hid hI
  clear hI
  go_enter Tryz.func69, Tryz.ntmps69
  go_wp2
  go_loopg [3, 4, 9] l.length (fun g s3 s4 s9 wr => ∃ i, i ≤ l.length ∧ g = l.length - i ∧ s9 = .int .i64 (i : Nat) ∧ s3 = .int .i64 (usedI (l.take i) : Nat) ∧ s4 = .int .i64 (lastPos (l.take i)) ∧ w = wr)
  case atStart => exact ⟨0, by omega, rfl, rfl, rfl, rfl, rfl⟩
  case round =>
    obtain ⟨i, hi, rfl, rfl, rfl, rfl, rfl⟩ := hrel
    by_cases hc : i < l.length
    · have hcz : (i : Int) < (l.length : Int) := by omega
      obtain ⟨b, off, rfl, c, hb1, hb2⟩ := HI.out.cell i hc
      have hu := usedI_take hc
      have hl := lastPos_take hc
      have hul := usedI_le (l.take i)
      rw [List.length_take] at hul
      have HU := Lib.hid hu
      have HL := Lib.hid hl
      clear hu hl
      generalize l[i] = y at *
      by_cases hy : 0 < y
      · have t1 : decide (0 < y) = true := decide_eq_true hy
        go_wp2
        go_roundg (l.length - (i + 1))
        case measure => omega
        case rel =>
          refine ⟨i + 1, by omega, rfl, by first | rfl | go_num, ?_, ?_, rfl⟩
          · rw [HU.out, if_pos hy]; first | rfl | go_num
          · rw [HL.out, if_pos hy]
      · have t1 : decide (0 < y) = false := decide_eq_false hy
        go_wp2
        go_roundg (l.length - (i + 1))
        case measure => omega
        case rel =>
          refine ⟨i + 1, by omega, rfl, by first | rfl | go_num, ?_, ?_, rfl⟩
          · rw [HU.out, if_neg (by omega)]; first | rfl | go_num
          · rw [HL.out, if_neg (by omega)]
    · have hcz : ¬ (i : Int) < (l.length : Int) := by omega
      have hil : i = l.length := by omega
      subst hil
      rw [List.take_length]
      have hok := Lib.hid (lensOk_ref l)
      have hul := usedI_le l
      generalize usedI l = u at *
      generalize lastPos l = y at *
      generalize kindOf l = kk at *
      by_cases h1 : kk = 1
      · have t1 : ((kk : Int) == 1) = true := by rw [h1]; rfl
        go_wp2_with fail
        refine HK.out.mono ?_
        rintro e w2 ⟨rfl, rfl⟩
        go_wp2
        go_returns
        exact ⟨by rw [hok.out]; simp [h1], rfl⟩
      · have t1 : ((kk : Int) == 1) = false := by simp; omega
        by_cases h2 : u = 1
        · have t2 : ((u : Int) == 1) = true := by rw [h2]; rfl
          by_cases h3 : y = 1
          · have t3 : (y == 1) = true := by rw [h3]; rfl
            go_wp2_with fail
            refine HK.out.mono ?_
            rintro e w2 ⟨rfl, rfl⟩
            go_wp2
            go_returns
            exact ⟨by rw [hok.out]; simp [h2, h3], rfl⟩
          · have t3 : (y == 1) = false := by simp [h3]
            go_wp2_with fail
            refine HK.out.mono ?_
            rintro e w2 ⟨rfl, rfl⟩
            go_wp2
            go_returns
            exact ⟨by rw [hok.out]; simp [h1, h3], rfl⟩
        · have t2 : ((u : Int) == 1) = false := by simp; omega
          go_wp2_with fail
          refine HK.out.mono ?_
          rintro e w2 ⟨rfl, rfl⟩
          go_wp2
          go_returns
          exact ⟨by rw [hok.out]; simp [h1, h2], rfl⟩
end Go.Proofs.YtdehkaknbmbieaaGreat
