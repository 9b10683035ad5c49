/- Package name: plain: which bytes may begin a letter (UTF-8), and which texts are letters. -/
namespace Go.Proofs.YtibmhadnfggmlaaDoor

/-- How many bytes a letter has that begins so, and between which the second one is; 0: there is none. -/
def letterP (c : Nat) : Nat × Nat × Nat :=
  if c < 128 then (1, 0, 0) else if 194 ≤ c ∧ c ≤ 223 then (2, 128, 191) else if c = 224 then (3, 160, 191) else if c = 237 then (3, 128, 159)
  else if 225 ≤ c ∧ c ≤ 239 then (3, 128, 191) else if c = 240 then (4, 144, 191) else if 241 ≤ c ∧ c ≤ 243 then (4, 128, 191) else if c = 244 then (4, 128, 143) else (0, 0, 0)
/-- Are the bytes behind the first one such as its letter wants? -/
def tailOk (lo hi : Nat) : Nat → List Nat → Bool
  | 0, _ => true
  | _ + 1, [] => false
  | n + 1, b :: r => decide (lo ≤ b) && decide (b ≤ hi) && tailOk 128 191 n r
/-- Is a text letters? -/
def utfF : Nat → List Nat → Bool
  | 0, l => l.isEmpty
  | _ + 1, [] => true
  | f + 1, c :: r => decide ((letterP c).1 ≠ 0) && tailOk (letterP c).2.1 (letterP c).2.2 ((letterP c).1 - 1) r && utfF f (r.drop ((letterP c).1 - 1))
def utfP (l : List Nat) : Bool := utfF l.length l
theorem letterP_le (c : Nat) : (letterP c).1 ≤ 4 := by
  unfold letterP; repeat' split
  all_goals (dsimp only; omega)
theorem tailOk_len (lo hi : Nat) : ∀ (n : Nat) (l : List Nat), tailOk lo hi n l = true → n ≤ l.length
  | 0, _, _ => Nat.zero_le _
  | _ + 1, [], h => by simp [tailOk] at h
  | n + 1, b :: r, h => by
    simp only [tailOk, Bool.and_eq_true] at h
    have := tailOk_len 128 191 n r h.2
    rw [List.length_cons]; omega
/-- More fuel than bytes changes nothing. -/
theorem utfF_more : ∀ (f : Nat) (l : List Nat), l.length ≤ f → utfF f l = utfF l.length l
  | 0, l, h => by
    have : l = [] := List.eq_nil_of_length_eq_zero (by omega)
    subst this; rfl
  | f + 1, [], _ => rfl
  | f + 1, c :: r, h => by
    have hr : r.length ≤ f := by rw [List.length_cons] at h; omega
    have hd : (r.drop ((letterP c).1 - 1)).length ≤ r.length := by rw [List.length_drop]; omega
    show (decide ((letterP c).1 ≠ 0) && tailOk (letterP c).2.1 (letterP c).2.2 ((letterP c).1 - 1) r && utfF f (r.drop ((letterP c).1 - 1))) = (decide ((letterP c).1 ≠ 0) && tailOk (letterP c).2.1 (letterP c).2.2 ((letterP c).1 - 1) r && utfF r.length (r.drop ((letterP c).1 - 1)))
    rw [utfF_more f _ (by omega), utfF_more r.length _ hd]
  termination_by f _ _ => f
  decreasing_by all_goals (simp_wf; try (rw [List.length_cons] at *); omega)
theorem utfP_cons (c : Nat) (r : List Nat) : utfP (c :: r) = (decide ((letterP c).1 ≠ 0) && tailOk (letterP c).2.1 (letterP c).2.2 ((letterP c).1 - 1) r && utfP (r.drop ((letterP c).1 - 1))) := by
  show (decide ((letterP c).1 ≠ 0) && tailOk (letterP c).2.1 (letterP c).2.2 ((letterP c).1 - 1) r && utfF r.length (r.drop ((letterP c).1 - 1))) = _
  rw [utfF_more r.length _ (by rw [List.length_drop]; omega)]
  rfl
/-- A part of a path: its bytes, and its length. -/
def partOk (l : List Nat) : Bool := l.all (fun c => !(decide (c < 32) || decide (c = 127) || decide (c = 47) || decide (c = 92) || decide (c = 58))) && decide (1 ≤ l.length) && decide (l.length ≤ 60) && decide (l ≠ [46]) && decide (l ≠ [46, 46]) && utfP l
end Go.Proofs.YtibmhadnfggmlaaDoor
