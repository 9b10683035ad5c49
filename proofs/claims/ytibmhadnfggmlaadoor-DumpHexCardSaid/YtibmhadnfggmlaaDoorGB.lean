/- Package field: plain: numbers as bytes, a reader. -/
import Derived.Test.YtibmhadnfggmlaaDoorGA
import Derived.Deep.OwnRows
namespace Go.Proofs.YtibmhadnfggmlaaDoor
set_option linter.unusedVariables false
set_option linter.unusedSimpArgs false
set_option linter.unusedSectionVars false
open Go.RowKit

/-- A number's bytes, the least first. -/
def leP : Nat → Nat → List Nat
  | _, 0 => []
  | n, k + 1 => n % 256 :: leP (n / 256) k
def leG : List Nat → Nat
  | [] => 0
  | x :: t => x + 256 * leG t
theorem leP_len : ∀ (k n : Nat), (leP n k).length = k
  | 0, _ => rfl
  | k + 1, n => by rw [leP, List.length_cons, leP_len k]
theorem leP_lt : ∀ (k n : Nat), ∀ x ∈ leP n k, x < 256
  | 0, _ => by intro x hx; simp [leP] at hx
  | k + 1, n => by
    intro x hx
    rw [leP] at hx
    rcases List.mem_cons.1 hx with h | h
    · omega
    · exact leP_lt k _ x h
theorem leP_snoc : ∀ (k n : Nat), leP n (k + 1) = leP n k ++ [n / 256 ^ k % 256]
  | 0, n => by simp [leP]
  | k + 1, n => by
    rw [leP, leP_snoc k (n / 256), leP, List.cons_append, Nat.div_div_eq_div_mul, Nat.pow_succ, Nat.mul_comm 256]
theorem leP_take : ∀ (k i n : Nat), i ≤ k → (leP n k).take i = leP n i
  | k, 0, n, _ => by simp [leP]
  | 0, i + 1, n, h => by omega
  | k + 1, i + 1, n, h => by rw [leP, List.take_succ_cons, leP_take k i _ (by omega), leP]
theorem leP_get (k n i : Nat) (h : i < k) : (leP n k)[i]? = some (n / 256 ^ i % 256) := by
  have h1 := leP_take k (i + 1) n h
  rw [leP_snoc] at h1
  have h2 : ((leP n k).take (i + 1))[i]? = (leP n k)[i]? := by rw [List.getElem?_take_of_lt (by omega)]
  rw [← h2, h1, List.getElem?_append_right (by rw [leP_len]; omega), leP_len]
  simp
theorem leP_add : ∀ (a b n : Nat), leP n (a + b) = leP n a ++ leP (n / 256 ^ a) b
  | 0, b, n => by simp [leP]
  | a + 1, b, n => by
    rw [show a + 1 + b = a + b + 1 by omega, leP, leP_add a b, leP, List.cons_append, Nat.div_div_eq_div_mul, Nat.pow_succ, Nat.mul_comm 256]
theorem leP_mod : ∀ (k n : Nat), leP (n % 256 ^ k) k = leP n k
  | 0, _ => rfl
  | k + 1, n => by
    rw [leP, leP, Nat.pow_succ, Nat.mul_comm, Nat.mod_mul_right_mod, Nat.mod_mul_right_div_self, leP_mod k]
theorem leG_append : ∀ (a b : List Nat), leG (a ++ b) = leG a + 256 ^ a.length * leG b
  | [], b => by simp [leG]
  | x :: t, b => by
    rw [List.cons_append, leG, leG_append t b, leG, List.length_cons, Nat.pow_succ, Nat.mul_comm (256 ^ t.length) 256, Nat.mul_add, Nat.mul_assoc]; omega
theorem leG_snoc (a : List Nat) (x : Nat) : leG (a ++ [x]) = leG a + 256 ^ a.length * x := by rw [leG_append]; simp [leG]
theorem leG_lt : ∀ (l : List Nat), (∀ x ∈ l, x < 256) → leG l < 256 ^ l.length
  | [], _ => by simp [leG]
  | x :: t, h => by
    have h1 := h x (by simp)
    have h2 := leG_lt t fun y hy => h y (by simp [hy])
    rw [leG, List.length_cons, Nat.pow_succ]; omega
theorem leG_leP : ∀ (k n : Nat), leG (leP n k) = n % 256 ^ k
  | 0, n => by simp [leP, leG, Nat.mod_one]
  | k + 1, n => by
    rw [leP, leG, leG_leP k, Nat.pow_succ, Nat.mul_comm (256 ^ k) 256, Nat.mod_mul]
theorem leP_leG : ∀ (l : List Nat), (∀ x ∈ l, x < 256) → leP (leG l) l.length = l
  | [], _ => rfl
  | x :: t, h => by
    have h1 := h x (by simp)
    have h2 := leP_leG t fun y hy => h y (by simp [hy])
    rw [leG, List.length_cons, leP, show (x + 256 * leG t) % 256 = x by omega, show (x + 256 * leG t) / 256 = leG t by omega, h2]

/-- A reader: its text, where it is, whether it went wrong. -/
structure RS where
  s : ByteArray
  p : Nat
  bad : Bool
def RS.cells (r : RS) : List Value := [.string r.s, .int .i64 (r.p : Nat), .bool r.bad]
def RS.l (r : RS) : List Nat := bytesOf r.s
def RS.text (r : RS) (n : Nat) : List Nat × RS :=
  if r.bad = true then ([], r) else if r.s.size - r.p < n then ([], ⟨r.s, r.p, true⟩) else ((r.l.drop r.p).take n, ⟨r.s, r.p + n, false⟩)
def RS.num (r : RS) (k : Nat) : Nat × RS := (leG (r.text k).1, (r.text k).2)
/-- A reader that may be: it is within its text. -/
def RS.Ok (r : RS) : Prop := r.p ≤ r.s.size
theorem RS.text_ok {r : RS} (h : r.Ok) (n : Nat) : (r.text n).2.Ok := by
  unfold RS.text RS.Ok at *
  repeat' split
  all_goals (dsimp only; omega)
theorem RS.text_s (r : RS) (n : Nat) : (r.text n).2.s = r.s := by
  unfold RS.text
  repeat' split
  all_goals rfl
theorem RS.num_ok {r : RS} (h : r.Ok) (n : Nat) : (r.num n).2.Ok := RS.text_ok h n
theorem RS.num_s (r : RS) (n : Nat) : (r.num n).2.s = r.s := RS.text_s r n
theorem RS.text_lt (r : RS) (n : Nat) : ∀ x ∈ (r.text n).1, x < 256 := by
  unfold RS.text
  repeat' split
  all_goals first
    | (intro x hx; simp at hx; done)
    | exact fun x hx => bytesOf_lt r.s x (List.mem_of_mem_drop (List.mem_of_mem_take hx))
theorem RS.text_len (r : RS) (n : Nat) : (r.text n).1.length ≤ n := by
  unfold RS.text
  repeat' split
  all_goals (simp; try omega)
theorem RS.num_lt (r : RS) (k : Nat) : (r.num k).1 < 256 ^ k := by
  refine Nat.lt_of_lt_of_le (leG_lt _ (r.text_lt k)) (Nat.pow_le_pow_right (by omega) (r.text_len k))
theorem RS.text_bad {r : RS} (h : r.bad = true) (n : Nat) : r.text n = ([], r) := by unfold RS.text; rw [if_pos h]
theorem RS.text_short {s : ByteArray} {p : Nat} (n : Nat) (h : s.size - p < n) : (⟨s, p, false⟩ : RS).text n = ([], ⟨s, p, true⟩) := by
  unfold RS.text; rw [if_neg (by simp), if_pos h]
theorem RS.text_fine {s : ByteArray} {p : Nat} (n : Nat) (h : n ≤ s.size - p) : (⟨s, p, false⟩ : RS).text n = (((bytesOf s).drop p).take n, ⟨s, p + n, false⟩) := by
  unfold RS.text; rw [if_neg (by simp), if_neg (by dsimp only; omega)]; rfl
theorem RS.text_isbad {r : RS} (h : r.bad = true) (n : Nat) : (r.text n).2.bad = true := by rw [RS.text_bad h]; exact h
/-- What is read, once the reader is at its end, is as it should be or nothing. -/
theorem RS.text_all (r : RS) (n : Nat) (h : (r.text n).2.bad = false) : r.bad = false ∧ n ≤ r.s.size - r.p ∧ r.text n = ((r.l.drop r.p).take n, ⟨r.s, r.p + n, false⟩) := by
  unfold RS.text at h ⊢
  split at h
  · rename_i h1; dsimp only at h; rw [h1] at h; cases h
  · rename_i h1
    split at h
    · cases h
    · rename_i h2
      exact ⟨by simpa using h1, by omega, by rw [if_neg h1, if_neg h2]⟩
theorem RS.text_not (r : RS) (n : Nat) (h : r.s.size < r.p + n) (hp : r.p ≤ r.s.size) : (r.text n).2.bad = true := by
  cases hb : (r.text n).2.bad with
  | true => rfl
  | false => have := RS.text_all r n hb; omega
end Go.Proofs.YtibmhadnfggmlaaDoor
namespace Go.Proofs.YtibmhadnfggmlaaDoor
set_option linter.unusedVariables false
set_option linter.unusedSimpArgs false
set_option linter.unusedSectionVars false
open Go.RowKit
set_option linter.unusedVariables false

theorem infoByte : (Tryd.prog.info? 5).map (fun i => (i.zero, i.size, i.bytes)) = some (some (.int .u8 0), 1, 1) := by kernel_rfl
theorem Blk.conv {P : Program} {w : World} {b n c : Nat} {l : List Nat} {src dst e : TypeId} (h : Blk w b (u8s l) e) (hl : l.length = n) (hs : P.underlying src = some (.slice e)) (he : P.underlying e = some (.int .u8)) (hd : P.underlying dst = some .string) :
    (convert src dst (.slice (some ⟨b, 0, none⟩) n c)).run P w = .ok (.string (strOf l)) w := by
  have hr := run_convert_bytes_arg w src e hs he b 0 n c (l.map fun x : Nat => (x : Int)) (by simpa using hl) (fun i hi => by
    have hil : i < l.length := by omega
    rw [Nat.zero_add]
    refine h.cell i ?_
    simp [u8s, hil]) dst hd
  rw [hr]
  congr 2
  simp only [strOfNums, strOf, List.map_map]
  congr 2
theorem pow8 (i : Nat) : (2 : Nat) ^ (8 * i) = 256 ^ i := by rw [Nat.pow_mul]
theorem or_u64 (a b : Nat) (ha : a < 18446744073709551616) (hb : b < 18446744073709551616) : bits .or .u64 (a : Int) (b : Int) = ((a ||| b : Nat) : Int) := by
  show IntKind.u64.wrap ((BitVec.ofInt 64 (a : Int) ||| BitVec.ofInt 64 (b : Int)).toNat : Int) = _
  rw [BitVec.toNat_or, ofInt_nat 64 a ha, ofInt_nat 64 b hb]
  exact IntWalk.u64_in _ (by have := Nat.or_lt_two_pow (n := 64) ha hb; omega)
theorem or_put (m x i : Nat) (hm : m < 256 ^ i) (hx : x < 256) (hi : i ≤ 7) : bits BinOp.or IntKind.u64 (m : Int) (IntKind.u64.wrap (IntKind.u64.wrap (x : Int) * 2 ^ (8 * i))) = ((m + 256 ^ i * x : Nat) : Int) := by
  have hp : 256 ^ i ≤ 256 ^ 7 := Nat.pow_le_pow_right (by omega) hi
  have h1 : IntKind.u64.wrap (x : Int) = (x : Int) := IntWalk.u64_in _ (by omega)
  have hb : 256 ^ i * x ≤ 256 ^ 7 * 255 := Nat.mul_le_mul hp (by omega)
  have e2 : (x : Int) * 2 ^ (8 * i) = ((256 ^ i * x : Nat) : Int) := by rw [← pow8]; push_cast; exact Int.mul_comm _ _
  rw [h1, e2, IntWalk.u64_in _ (by omega), or_u64 _ _ (by omega) (by omega), ← pow8, Nat.or_comm, ← Nat.two_pow_add_eq_or_of_lt (by rw [pow8]; exact hm), Nat.add_comm]
theorem u8s_set2 (l : List Nat) (i x : Nat) : (u8s l).set i (.int .u8 (x : Nat)) = u8s (l.set i x) := by simp [u8s]
theorem putL_step (n k i : Nat) (h : i < k) : ((leP n i ++ List.replicate (k - i) 0).set i (n / 256 ^ i % 256)) = leP n (i + 1) ++ List.replicate (k - (i + 1)) 0 := by
  rw [show k - i = (k - (i + 1)) + 1 by omega, List.replicate_succ, List.set_append_right _ _ (by rw [leP_len]; omega), leP_len, Nat.sub_self, List.set_cons_zero, leP_snoc, List.append_assoc]; rfl
set_option maxRecDepth 100000 in
set_option maxHeartbeats 1600000 in
theorem put_any (n k : Nat) (w : World) (hn : n < 18446744073709551616) (hk : k ≤ 8) : Calls Tryd.prog 126 #[.int .u64 (n : Nat), .int .i64 (k : Nat)] w fun e w' => e = .returned (.string (strOf (leP n k))) ∧ Upd [] w w' := by
  have hmk := fun w => run_make_row' (P := Tryd.prog) 28 5 (.int .u8 0) 1 Tryd.underlying28 infoByte rfl .i64 .i64 k (by omega) (by omega) (w := w)
  have hmx : max (0 : Int) (min (k : Int) 8) = (k : Int) := by omega
  rw [← hmx] at hmk
  have hk8 : (k : Int) ≤ 8 := by omega
  have hk0 : (0 : Int) ≤ (k : Int) := by omega
  have HX := Lib.hid hmx
  clear hmx
  go_enter Tryd.func126, Tryd.ntmps126
  go_wp2
  have hB0 : Blk (w.alloc (.cells (madeCells #[.int .u8 0] k) 5)) w.heap.size (u8s (leP n 0 ++ List.replicate (k - 0) 0)) 5 := by
    have := heap_alloc_new w (.cells (madeCells #[.int .u8 0] k) 5)
    unfold Blk
    rw [this]
    congr 2
    apply Array.ext
    · simp [madeCells, u8s, leP]
    · intro j h1 h2
      simp [madeCells, u8s, leP, Nat.mod_one]
  have hU0 : Upd [] w (w.alloc (.cells (madeCells #[.int .u8 0] k) 5)) := (Upd.refl [] w).alloc _
  generalize w.alloc (.cells (madeCells #[.int .u8 0] k) 5) = w0 at *
  obtain ⟨b0, hb0⟩ : ∃ b0, w.heap.size = b0 := ⟨_, rfl⟩
  rw [hb0] at hB0 ⊢
  have HB := Lib.hid (show w.heap.size ≤ b0 by omega)
  clear hb0 hmk
  go_loopg [13] k (fun g s13 wr => ∃ i, i ≤ k ∧ g = k - i ∧ s13 = .int .i64 (i : Nat) ∧ Blk wr b0 (u8s (leP n i ++ List.replicate (k - i) 0)) 5 ∧ Upd [] w wr)
  case atStart => exact ⟨0, by omega, rfl, rfl, hB0, hU0⟩
  case round =>
    obtain ⟨i, hi, rfl, rfl, hB, hU⟩ := hrel
    clear hB0 hU0
    by_cases hc9 : i < k
    · have hcz : (i : Int) < (k : Int) := by omega
      have HST := Lib.hid (putL_step n k i hc9)
      have hlen : (leP n i ++ List.replicate (k - i) 0).length = k := by rw [List.length_append, leP_len, List.length_replicate]; omega
      obtain ⟨q, hq⟩ : ∃ q, q = n / 256 ^ i % 256 := ⟨_, rfl⟩
      rw [← hq] at HST
      have hdv : (n : Int) / 2 ^ (8 * i) % 256 = (q : Int) := by rw [hq, ← pow8]; simp
      clear hq
      generalize leP n i ++ List.replicate (k - i) 0 = L at *
      have c1 := hB.cell i (v := .int .u8 ((L[i]'(by omega) : Nat) : Int)) (by rw [u8s]; simp [hlen, hc9])
      have f1 := hB.frz i
      generalize L[i]'(by omega) = old at *
      have HLN := Lib.hid hlen
      clear hlen
      go_wp2
      go_roundg (k - (i + 1))
      · exact ⟨i + 1, by omega, rfl, by first | rfl | go_num, by rw [← HST.out, ← u8s_set2]; exact hB.set i _, hU.setCell (.inr HB.out) _⟩
      · omega
    · have hcz : ¬ (i : Int) < (k : Int) := by omega
      have h9 : i = k := by omega
      subst h9
      rw [Nat.sub_self, List.replicate_zero, List.append_nil] at hB
      have hcv2 := hB.conv (P := Tryd.prog) (c := i) (leP_len i n) Tryd.underlying28 Tryd.underlying5 Tryd.underlying9
      go_wp2
      go_ret
      exact ⟨rfl, hU⟩
set_option maxRecDepth 100000 in
set_option maxHeartbeats 1600000 in
theorem rput_any (n k : Nat) (w : World) (hn : n < 18446744073709551616) (hk : k ≤ 8) : Calls Tryd.prog 86 #[.int .u64 (n : Nat), .int .i64 (k : Nat)] w fun e w' => e = .returned (.string (strOf (leP n k))) ∧ Upd [] w w' := by
  have hk8 : (k : Int) ≤ 8 := by omega
  have hk0 : (0 : Int) ≤ (k : Int) := by omega
  go_enter Tryd.func86, Tryd.ntmps86
  go_wp2
  go_loopg [0, 5, 6] k (fun g s0 s5 s6 wr => ∃ i m, i ≤ k ∧ g = k - i ∧ s6 = .int .i64 (i : Nat) ∧ s0 = .int .u64 (m : Nat) ∧ m < 18446744073709551616 ∧ Hid (m = n / 256 ^ i) ∧ s5 = .string (strOf (leP n i)) ∧ Upd [] w wr)
  case atStart => exact ⟨0, n, by omega, rfl, rfl, rfl, hn, Lib.hid (by simp), rfl, Upd.refl _ _⟩
  case round =>
    obtain ⟨i, m, hi, rfl, rfl, rfl, hm, HM, rfl, hU⟩ := hrel
    by_cases hc9 : i < k
    · have hcz : (i : Int) < (k : Int) := by omega
      have hcy : (i : Int) < 8 := by omega
      have HST : Hid (leP n (i + 1) = leP n i ++ [m % 256]) := Lib.hid (by rw [leP_snoc, HM.out])
      have HD : Hid (m / 256 = n / 256 ^ (i + 1)) := Lib.hid (by rw [HM.out, Nat.div_div_eq_div_mul, Nat.pow_succ])
      obtain ⟨q, hq⟩ : ∃ q, q = m % 256 := ⟨_, rfl⟩
      rw [← hq] at HST
      have z1 : (m : Int) % 256 = (q : Int) := by omega
      have hcv : (convert 28 9 (.slice (some ⟨wr.heap.size, 0, none⟩) 1 1)).run Tryd.prog (wr.alloc (.cells #[.int .u8 (q : Nat)] 5)) = .ok (.string (strOf [q])) (wr.alloc (.cells #[.int .u8 (q : Nat)] 5)) := by
        exact (Blk.new wr (u8s [q]) 5).conv (P := Tryd.prog) (n := 1) (c := 1) rfl Tryd.underlying28 Tryd.underlying5 Tryd.underlying9
      have hm2 : m / 256 < 18446744073709551616 := by omega
      have HA := Lib.hid (strOf_append (leP n i) [q])
      have hz1 : (strOf (leP n i)).size = i := by rw [size_strOf, leP_len]
      have hz2 : (strOf [q]).size = 1 := size_strOf _
      clear HM hq
      go_wp2
      go_roundg (k - (i + 1))
      · exact ⟨i + 1, m / 256, by omega, rfl, by first | rfl | go_num, by simp, hm2, HD, by rw [HST.out, ← HA.out], hU.alloc _⟩
      · omega
    · have hcz : ¬ (i : Int) < (k : Int) := by omega
      have h9 : i = k := by omega
      subst h9
      go_wp2
      go_ret
      exact ⟨rfl, hU⟩
/-- What Get tells of so many bytes. -/
def getV (s : ByteArray) (k : Nat) : Value := if k ≤ s.size then .tuple #[.int .u64 (leG ((bytesOf s).take k) : Nat), .bool true] else .tuple #[.int .u64 0, .bool false]
set_option maxRecDepth 100000 in
set_option maxHeartbeats 1600000 in
theorem get_any (s : ByteArray) (k : Nat) (w : World) (hs : s.size ≤ 1000000) (hk : k ≤ 8) : Calls Tryd.prog 130 #[.string s, .int .i64 (k : Nat)] w fun e w' => e = .returned (getV s k) ∧ Upd [] w w' := by
  have hk8 : (k : Int) ≤ 8 := by omega
  have hk0 : (0 : Int) ≤ (k : Int) := by omega
  by_cases hc : k ≤ s.size
  · have HV : Hid (getV s k = .tuple #[.int .u64 (leG ((bytesOf s).take k) : Nat), .bool true]) := Lib.hid (if_pos hc)
    have hcz : (k : Int) ≤ (s.size : Int) := by omega
    go_enter Tryd.func130, Tryd.ntmps130
    go_wp2
    go_loopg [4, 20] k (fun g s4 s20 wr => ∃ i m, i ≤ k ∧ g = k - i ∧ s20 = .int .i64 (i : Nat) ∧ s4 = .int .u64 (m : Nat) ∧ m < 256 ^ i ∧ Hid (m = leG ((bytesOf s).take i)) ∧ Upd [] w wr)
    case atStart => exact ⟨0, 0, by omega, rfl, rfl, rfl, by simp, Lib.hid (by simp [leG]), Upd.refl _ _⟩
    case round =>
      obtain ⟨i, m, hi, rfl, rfl, rfl, hm, HM, hU⟩ := hrel
      by_cases hc9 : i < k
      · have hcz2 : (i : Int) < (k : Int) := by omega
        have hcs : i < s.size := by omega
        have hbl : s[i].toNat < 256 := s[i].toNat_lt
        have HO := Lib.hid (or_put m s[i].toNat i hm hbl (by omega))
        have HO2 : Hid (bits BinOp.or IntKind.u64 (m : Int) (IntKind.u64.wrap ((s[i].toNat : Int) * 2 ^ (8 * i))) = ((m + 256 ^ i * s[i].toNat : Nat) : Int)) := Lib.hid (by
          have := HO.out
          rwa [show IntKind.u64.wrap (s[i].toNat : Int) = (s[i].toNat : Int) from IntWalk.u64_in _ (by omega)] at this)
        have HN : Hid (m + 256 ^ i * s[i].toNat < 256 ^ (i + 1)) := Lib.hid (by
          have h1 : 256 ^ i * s[i].toNat ≤ 256 ^ i * 255 := Nat.mul_le_mul_left _ (by omega)
          rw [Nat.pow_succ]; omega)
        have HG : Hid (m + 256 ^ i * s[i].toNat = leG ((bytesOf s).take (i + 1))) := Lib.hid (by
          rw [List.take_succ_eq_append_getElem (by rw [length_bytesOf]; exact hcs), leG_snoc, ← HM.out, bytesOf_get s i hcs, List.length_take, length_bytesOf, Nat.min_eq_left (by omega)])
        have HM1 := Lib.hid hm
        clear HM hm
        go_wp2
        go_roundg (k - (i + 1))
        · exact ⟨i + 1, m + 256 ^ i * s[i].toNat, by omega, rfl, by first | rfl | go_num, by first | rw [HO.out] | rw [HO2.out], HN.out, HG, hU⟩
        · omega
      · have hcz : ¬ (i : Int) < (k : Int) := by omega
        have h9 : i = k := by omega
        subst h9
        go_wp2
        go_ret2
        exact ⟨by rw [HV.out, HM.out]; rfl, hU⟩
  · have HV : Hid (getV s k = .tuple #[.int .u64 0, .bool false]) := Lib.hid (if_neg hc)
    go_enter Tryd.func130, Tryd.ntmps130
    go_wp2
    go_ret2
    exact ⟨by rw [HV.out]; rfl, Upd.refl _ _⟩
set_option maxRecDepth 100000 in
set_option maxHeartbeats 1600000 in
theorem rget_any (s : ByteArray) (k : Nat) (w : World) (hs : s.size ≤ 1000000) (hk : k ≤ 8) : Calls Tryd.prog 129 #[.string s, .int .i64 (k : Nat)] w fun e w' => e = .returned (getV s k) ∧ Upd [] w w' := by
  have hk8 : (k : Int) ≤ 8 := by omega
  have hk0 : (0 : Int) ≤ (k : Int) := by omega
  by_cases hc : k ≤ s.size
  · have HV : Hid (getV s k = .tuple #[.int .u64 (leG ((bytesOf s).take k) : Nat), .bool true]) := Lib.hid (if_pos hc)
    have hcz : (k : Int) ≤ (s.size : Int) := by omega
    go_enter Tryd.func129, Tryd.ntmps129
    go_wp2
    go_loopg [6, 7] (0 + k) (fun g s6 s7 wr => ∃ i m, i ≤ k ∧ g = 0 + i ∧ s7 = .int .i64 ((i : Nat) - 1) ∧ s6 = .int .u64 (m : Nat) ∧ m < 256 ^ (k - i) ∧ Hid (m = leG (((bytesOf s).take k).drop i)) ∧ Upd [] w wr)
    case atStart => exact ⟨k, 0, by omega, rfl, rfl, rfl, by simp, Lib.hid (by rw [List.drop_of_length_le (by rw [List.length_take]; omega)]; rfl), Upd.refl _ _⟩
    case round =>
      obtain ⟨i, m, hi, rfl, rfl, rfl, hm, HM, hU⟩ := hrel
      by_cases hc9 : 0 < i
      · have hcz2 : (0 : Int) ≤ (i : Int) - 1 := by omega
        obtain ⟨j, rfl⟩ : ∃ j, i = j + 1 := ⟨i - 1, by omega⟩
        have hcs : j < s.size := by omega
        have hbl : s[j].toNat < 256 := s[j].toNat_lt
        have h7 : 256 ^ (k - (j + 1)) ≤ 256 ^ 7 := Nat.pow_le_pow_right (by omega) (by omega)
        have HW : Hid (IntKind.u64.wrap (IntKind.u64.wrap (256 * (m : Int)) + (s[j].toNat : Int)) = ((s[j].toNat + 256 * m : Nat) : Int)) := Lib.hid (by
          rw [show IntKind.u64.wrap (256 * (m : Int)) = 256 * (m : Int) from IntWalk.u64_in _ (by omega), IntWalk.u64_in _ (by omega)]; omega)
        have HN : Hid (s[j].toNat + 256 * m < 256 ^ (k - j)) := Lib.hid (by
          rw [show k - j = (k - (j + 1)) + 1 by omega, Nat.pow_succ]; omega)
        have HG : Hid (s[j].toNat + 256 * m = leG (((bytesOf s).take k).drop j)) := Lib.hid (by
          have hl : j < ((bytesOf s).take k).length := by rw [List.length_take, length_bytesOf]; omega
          rw [List.drop_eq_getElem_cons hl, leG, ← HM.out, List.getElem_take, bytesOf_get s j hcs])
        clear HM hm h7
        go_wp2
        go_roundg (0 + j)
        · exact ⟨j, s[j].toNat + 256 * m, by omega, rfl, by first | rfl | go_num, by rw [HW.out], HN.out, HG, hU⟩
        · omega
      · have hcz2 : ¬ (0 : Int) ≤ (i : Int) - 1 := by omega
        have h9 : i = 0 := by omega
        subst h9
        go_wp2
        go_ret2
        exact ⟨by rw [HV.out, HM.out]; rfl, hU⟩
  · have HV : Hid (getV s k = .tuple #[.int .u64 0, .bool false]) := Lib.hid (if_neg hc)
    go_enter Tryd.func129, Tryd.ntmps129
    go_wp2
    go_ret2
    exact ⟨by rw [HV.out]; rfl, Upd.refl _ _⟩
end Go.Proofs.YtibmhadnfggmlaaDoor
