/- Package extent: plain: sets of places as spans that rise, with places between them. -/
namespace Go.Proofs.Ytibmhadnfggmlaa

def BIG : Int := 1099511627776
def spanOk (x : Int × Int) : Bool := decide (0 ≤ x.1) && decide (x.1 < x.2) && decide (x.2 ≤ BIG)
/-- Spans that are right, each behind the last one's end, with a place between. -/
def Norm : List (Int × Int) → Prop
  | [] => True
  | x :: l => (0 ≤ x.1 ∧ x.1 < x.2 ∧ x.2 ≤ BIG) ∧ (∀ y ∈ l, x.2 < y.1) ∧ Norm l
def memL (l : List (Int × Int)) (p : Int) : Prop := ∃ x ∈ l, x.1 ≤ p ∧ p < x.2
def ahead (l : List (Int × Int)) (x : Int × Int) : List (Int × Int) := l.filter fun y => decide (y.2 < x.1)
/-- One round of Add: what is ahead, what is behind, and the span so far. -/
def addStep (s : List (Int × Int) × (Int × Int) × List (Int × Int)) (y : Int × Int) : List (Int × Int) × (Int × Int) × List (Int × Int) :=
  if y.2 < s.2.1.1 then (s.1 ++ [y], s.2.1, s.2.2) else if s.2.1.2 < y.1 then (s.1, s.2.1, s.2.2 ++ [y]) else (s.1, (min s.2.1.1 y.1, max s.2.1.2 y.2), s.2.2)
def addP (l : List (Int × Int)) (x : Int × Int) : List (Int × Int) :=
  if spanOk x then (let s := l.foldl addStep ([], x, []); s.1 ++ [s.2.1] ++ s.2.2) else l
def cutOne (x y : Int × Int) : List (Int × Int) := (if y.1 < min y.2 x.1 then [(y.1, min y.2 x.1)] else []) ++ (if max y.1 x.2 < y.2 then [(max y.1 x.2, y.2)] else [])
def cutP (l : List (Int × Int)) (x : Int × Int) : List (Int × Int) := if spanOk x then l.flatMap (cutOne x) else l

theorem memL_nil (p : Int) : ¬ memL [] p := by rintro ⟨x, h, _⟩; cases h
theorem memL_cons (x : Int × Int) (l : List (Int × Int)) (p : Int) : memL (x :: l) p ↔ (x.1 ≤ p ∧ p < x.2) ∨ memL l p := by
  unfold memL
  constructor
  · rintro ⟨y, hy, h⟩
    rcases List.mem_cons.1 hy with rfl | hy
    · exact .inl h
    · exact .inr ⟨y, hy, h⟩
  · rintro (h | ⟨y, hy, h⟩)
    · exact ⟨x, by simp, h⟩
    · exact ⟨y, by simp [hy], h⟩
theorem memL_append (a b : List (Int × Int)) (p : Int) : memL (a ++ b) p ↔ memL a p ∨ memL b p := by
  unfold memL
  constructor
  · rintro ⟨y, hy, h⟩
    rcases List.mem_append.1 hy with hy | hy
    · exact .inl ⟨y, hy, h⟩
    · exact .inr ⟨y, hy, h⟩
  · rintro (⟨y, hy, h⟩ | ⟨y, hy, h⟩)
    · exact ⟨y, by simp [hy], h⟩
    · exact ⟨y, by simp [hy], h⟩
/-- A place of rising spans that stand behind q is behind q. -/
theorem memL_gt {l : List (Int × Int)} {q p : Int} (h : ∀ y ∈ l, q < y.1) (hm : memL l p) : q < p := by
  obtain ⟨y, hy, h1, _⟩ := hm
  have := h y hy
  omega
/-- What is in a set says which spans it has. -/
theorem norm_unique : ∀ {a b : List (Int × Int)}, Norm a → Norm b → (∀ p, memL a p ↔ memL b p) → a = b
  | [], [], _, _, _ => rfl
  | [], y :: b, _, hb, h => by
    exfalso
    have := (h y.1).2 ((memL_cons _ _ _).2 (.inl ⟨by omega, by have := hb.1; omega⟩))
    exact memL_nil _ this
  | x :: a, [], ha, _, h => by
    exfalso
    have := (h x.1).1 ((memL_cons _ _ _).2 (.inl ⟨by omega, by have := ha.1; omega⟩))
    exact memL_nil _ this
  | x :: a, y :: b, ha, hb, h => by
    obtain ⟨ha0, ha1, ha2⟩ := ha
    obtain ⟨hb0, hb1, hb2⟩ := hb
    have key : ∀ {u v : Int × Int} {c d : List (Int × Int)}, (u.1 < u.2) → (v.1 < v.2) → (∀ z ∈ d, v.2 < z.1) → (∀ p, memL (u :: c) p → memL (v :: d) p) → v.1 ≤ u.1 := fun {u v c d} hu hv hd hp => by
      rcases (memL_cons _ _ _).1 (hp u.1 ((memL_cons _ _ _).2 (.inl ⟨by omega, by omega⟩))) with h1 | h1
      · omega
      · have := memL_gt hd h1; omega
    have e1 : x.1 = y.1 := by
      have h1 := key (u := x) (v := y) (by omega) (by omega) hb1 (fun p => (h p).1)
      have h2 := key (u := y) (v := x) (by omega) (by omega) ha1 (fun p => (h p).2)
      omega
    have key2 : ∀ {u v : Int × Int} {c d : List (Int × Int)}, u.1 = v.1 → (u.1 < u.2) → (v.1 < v.2) → (∀ z ∈ c, u.2 < z.1) → (∀ z ∈ d, v.2 < z.1) → (∀ p, memL (u :: c) p ↔ memL (v :: d) p) → v.2 ≤ u.2 := fun {u v c d} he hu hv hc hd hp => by
      by_cases hlt : u.2 < v.2
      · exfalso
        rcases (memL_cons _ _ _).1 ((hp u.2).2 ((memL_cons _ _ _).2 (.inl ⟨by omega, hlt⟩))) with h1 | h1
        · omega
        · have := memL_gt hc h1; omega
      · omega
    have e2 : x.2 = y.2 := by
      have h1 := key2 e1 (by omega) (by omega) ha1 hb1 h
      have h2 := key2 e1.symm (by omega) (by omega) hb1 ha1 (fun p => (h p).symm)
      omega
    have exy : x = y := Prod.ext e1 e2
    subst exy
    have hrest : a = b := norm_unique ha2 hb2 (fun p => by
      constructor
      · intro hp
        rcases (memL_cons _ _ _).1 ((h p).1 ((memL_cons _ _ _).2 (.inr hp))) with h1 | h1
        · have := memL_gt ha1 hp; omega
        · exact h1
      · intro hp
        rcases (memL_cons _ _ _).1 ((h p).2 ((memL_cons _ _ _).2 (.inr hp))) with h1 | h1
        · have := memL_gt hb1 hp; omega
        · exact h1)
    rw [hrest]
theorem norm_append : ∀ {a b : List (Int × Int)}, Norm (a ++ b) ↔ Norm a ∧ Norm b ∧ ∀ x ∈ a, ∀ y ∈ b, x.2 < y.1
  | [], b => by simp [Norm]
  | x :: a, b => by
    show ((0 ≤ x.1 ∧ x.1 < x.2 ∧ x.2 ≤ BIG) ∧ (∀ y ∈ a ++ b, x.2 < y.1) ∧ Norm (a ++ b)) ↔ ((0 ≤ x.1 ∧ x.1 < x.2 ∧ x.2 ≤ BIG) ∧ (∀ y ∈ a, x.2 < y.1) ∧ Norm a) ∧ Norm b ∧ ∀ z ∈ x :: a, ∀ y ∈ b, z.2 < y.1
    rw [norm_append (a := a)]
    constructor
    · rintro ⟨h0, h1, h2, h3, h4⟩
      refine ⟨⟨h0, fun y hy => h1 y (by simp [hy]), h2⟩, h3, fun z hz y hy => ?_⟩
      rcases List.mem_cons.1 hz with rfl | hz
      · exact h1 y (by simp [hy])
      · exact h4 z hz y hy
    · rintro ⟨⟨h0, h1, h2⟩, h3, h4⟩
      refine ⟨h0, fun y hy => ?_, h2, h3, fun z hz y hy => h4 z (by simp [hz]) y hy⟩
      rcases List.mem_append.1 hy with hy | hy
      · exact h1 y hy
      · exact h4 x (by simp) y hy
theorem norm_one {x : Int × Int} (h : 0 ≤ x.1 ∧ x.1 < x.2 ∧ x.2 ≤ BIG) : Norm [x] := ⟨h, (fun y hy => by cases hy), trivial⟩
/-- What the rounds of Add keep. -/
structure AddInv (A : List (Int × Int)) (m : Int × Int) (B l : List (Int × Int)) : Prop where
  na : Norm A
  am : ∀ a ∈ A, a.2 < m.1
  ok : 0 ≤ m.1 ∧ m.1 < m.2 ∧ m.2 ≤ BIG
  nb : Norm B
  mb : ∀ b ∈ B, m.2 < b.1
  nl : Norm l
  al : ∀ a ∈ A, ∀ y ∈ l, a.2 < y.1
  bl : ∀ b ∈ B, ∀ y ∈ l, b.2 < y.1
theorem norm_mem {l : List (Int × Int)} {x : Int × Int} (h : Norm l) (hx : x ∈ l) : 0 ≤ x.1 ∧ x.1 < x.2 ∧ x.2 ≤ BIG := by
  induction l with
  | nil => cases hx
  | cons y l ih =>
    rcases List.mem_cons.1 hx with rfl | hx
    · exact h.1
    · exact ih h.2.2 hx
theorem AddInv.step {A : List (Int × Int)} {m : Int × Int} {B l : List (Int × Int)} {y : Int × Int} (h : AddInv A m B (y :: l)) :
    ∃ A' m' B', addStep (A, m, B) y = (A', m', B') ∧ AddInv A' m' B' l ∧ ∀ p, (memL A' p ∨ (m'.1 ≤ p ∧ p < m'.2) ∨ memL B' p) ↔ (memL A p ∨ (m.1 ≤ p ∧ p < m.2) ∨ memL B p) ∨ (y.1 ≤ p ∧ p < y.2) := by
  obtain ⟨na, am, ok, nb, mb, ⟨hy0, hy1, nl⟩, al, bl⟩ := h
  have al' : ∀ a ∈ A, ∀ z ∈ l, a.2 < z.1 := fun a ha z hz => al a ha z (by simp [hz])
  have bl' : ∀ b ∈ B, ∀ z ∈ l, b.2 < z.1 := fun b hb z hz => bl b hb z (by simp [hz])
  unfold addStep
  by_cases h1 : y.2 < m.1
  · refine ⟨A ++ [y], m, B, by rw [if_pos h1], ⟨norm_append.2 ⟨na, norm_one hy0, fun a ha z hz => by simp at hz; subst hz; exact al a ha z (by simp)⟩, fun a ha => ?_, ok, nb, mb, nl, fun a ha z hz => ?_, bl'⟩, fun p => ?_⟩
    · rcases List.mem_append.1 ha with ha | ha
      · exact am a ha
      · simp at ha; subst ha; exact h1
    · rcases List.mem_append.1 ha with ha | ha
      · exact al' a ha z hz
      · simp at ha; subst ha; exact hy1 z hz
    · rw [memL_append, memL_cons]
      have := memL_nil p
      constructor
      · rintro ((h | h | h) | h | h) <;> first | exact .inl (.inl h) | exact .inr h | exact absurd h this | exact .inl (.inr (.inl h)) | exact .inl (.inr (.inr h))
      · rintro ((h | h | h) | h) <;> first | exact .inl (.inl h) | exact .inr (.inl h) | exact .inr (.inr h) | exact .inl (.inr (.inl h))
  · by_cases h2 : m.2 < y.1
    · refine ⟨A, m, B ++ [y], by rw [if_neg h1, if_pos h2], ⟨na, am, ok, norm_append.2 ⟨nb, norm_one hy0, fun b hb z hz => by simp at hz; subst hz; exact bl b hb z (by simp)⟩, fun b hb => ?_, nl, al', fun b hb z hz => ?_⟩, fun p => ?_⟩
      · rcases List.mem_append.1 hb with hb | hb
        · exact mb b hb
        · simp at hb; subst hb; exact h2
      · rcases List.mem_append.1 hb with hb | hb
        · exact bl' b hb z hz
        · simp at hb; subst hb; exact hy1 z hz
      · rw [memL_append, memL_cons]
        have := memL_nil p
        constructor
        · rintro (h | h | h | h | h) <;> first | exact .inl (.inl h) | exact .inl (.inr (.inl h)) | exact .inl (.inr (.inr h)) | exact .inr h | exact absurd h this
        · rintro ((h | h | h) | h) <;> first | exact .inl h | exact .inr (.inl h) | exact .inr (.inr (.inl h)) | exact .inr (.inr (.inr (.inl h)))
    · have hB : B = [] := by
        cases B with
        | nil => rfl
        | cons b B =>
          exfalso
          have e1 := mb b (by simp)
          have e2 := bl b (by simp) y (by simp)
          have e3 := norm_mem nb (x := b) (by simp)
          omega
      subst hB
      refine ⟨A, (min m.1 y.1, max m.2 y.2), [], by rw [if_neg h1, if_neg h2], ⟨na, fun a ha => ?_, ?_, nb, (fun b hb => by cases hb), nl, al', bl'⟩, fun p => ?_⟩
      · have e1 := am a ha
        have e2 := al a ha y (by simp)
        dsimp only
        omega
      · dsimp only
        omega
      · dsimp only
        constructor
        · rintro (h | h | h)
          · exact .inl (.inl h)
          · by_cases hp : m.1 ≤ p ∧ p < m.2
            · exact .inl (.inr (.inl hp))
            · exact .inr (by omega)
          · exact absurd h (memL_nil p)
        · rintro ((h | h | h) | h)
          · exact .inl h
          · exact .inr (.inl (by omega))
          · exact absurd h (memL_nil p)
          · exact .inr (.inl (by omega))
theorem add_fold : ∀ (l : List (Int × Int)) {A : List (Int × Int)} {m : Int × Int} {B : List (Int × Int)}, AddInv A m B l →
    ∃ A' m' B', l.foldl addStep (A, m, B) = (A', m', B') ∧ AddInv A' m' B' [] ∧ ∀ p, (memL A' p ∨ (m'.1 ≤ p ∧ p < m'.2) ∨ memL B' p) ↔ (memL A p ∨ (m.1 ≤ p ∧ p < m.2) ∨ memL B p) ∨ memL l p
  | [], A, m, B, h => ⟨A, m, B, rfl, h, fun p => by have := memL_nil p; constructor <;> intro h' <;> first | exact .inl h' | (rcases h' with h' | h' <;> first | exact h' | exact absurd h' this)⟩
  | y :: l, A, m, B, h => by
    obtain ⟨A1, m1, B1, e1, h1, k1⟩ := h.step
    obtain ⟨A2, m2, B2, e2, h2, k2⟩ := add_fold l h1
    refine ⟨A2, m2, B2, by rw [List.foldl_cons, e1, e2], h2, fun p => ?_⟩
    rw [k2, k1, memL_cons, or_assoc]
theorem spanOk_iff {x : Int × Int} : spanOk x = true ↔ 0 ≤ x.1 ∧ x.1 < x.2 ∧ x.2 ≤ BIG := by
  unfold spanOk; simp [and_assoc]
theorem addP_spec {l : List (Int × Int)} {x : Int × Int} (h : Norm l) (hx : spanOk x = true) : Norm (addP l x) ∧ ∀ p, memL (addP l x) p ↔ memL l p ∨ (x.1 ≤ p ∧ p < x.2) := by
  obtain ⟨A, m, B, e, hi, hm⟩ := add_fold l (A := []) (m := x) (B := []) ⟨trivial, (fun a ha => by cases ha), spanOk_iff.1 hx, trivial, (fun b hb => by cases hb), h, (fun a ha => by cases ha), (fun b hb => by cases hb)⟩
  unfold addP
  rw [if_pos hx, e]
  dsimp only
  constructor
  · rw [norm_append, norm_append]
    refine ⟨⟨hi.na, norm_one hi.ok, fun a ha z hz => by simp at hz; subst hz; exact hi.am a ha⟩, hi.nb, fun a ha b hb => ?_⟩
    rcases List.mem_append.1 ha with ha | ha
    · have e1 := hi.am a ha
      have e2 := hi.mb b hb
      have e3 := hi.ok
      omega
    · simp at ha; subst ha; exact hi.mb b hb
  · intro p
    rw [memL_append, memL_append, memL_cons]
    have hn := memL_nil p
    have := hm p
    constructor
    · rintro ((h1 | h1 | h1) | h1)
      · rcases this.1 (.inl h1) with (h2 | h2 | h2) | h2 <;> first | exact absurd h2 hn | exact .inr h2 | exact .inl h2
      · rcases this.1 (.inr (.inl h1)) with (h2 | h2 | h2) | h2 <;> first | exact absurd h2 hn | exact .inr h2 | exact .inl h2
      · exact absurd h1 hn
      · rcases this.1 (.inr (.inr h1)) with (h2 | h2 | h2) | h2 <;> first | exact absurd h2 hn | exact .inr h2 | exact .inl h2
    · rintro (h1 | h1)
      · rcases this.2 (.inr h1) with h2 | h2 | h2 <;> first | exact .inl (.inl h2) | exact .inl (.inr (.inl h2)) | exact .inr h2
      · rcases this.2 (.inl (.inr (.inl h1))) with h2 | h2 | h2 <;> first | exact .inl (.inl h2) | exact .inl (.inr (.inl h2)) | exact .inr h2
end Go.Proofs.Ytibmhadnfggmlaa
