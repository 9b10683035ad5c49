/- Package extent: put (the closure of Cut), and what slices.Concat does of three rows. -/
import Derived.Test.YtibmhadnfggmlaaExtR
namespace Go.Proofs.Ytibmhadnfggmlaa
open Go.RowKit Go.Shelf
attribute [local go_sem] Oper.semAt_some

theorem infoSpan : (Try.prog.info? 24).map (fun i => (i.zero, i.size, i.bytes)) = some (some (.agg #[.int .i64 0, .int .i64 0]), 2, 16) := by kernel_rfl
/-- A slice variable in the box Bo that holds the spans out, in blocks from n₀ on. -/
structure OutAt (n₀ : Nat) (w : World) (Bo : Nat) (v : Value) (out : List (Int × Int)) : Prop where
  blk : Blk w Bo [v] 34
  row : Row w 24 2 v out.length (flat out)
  own : ∀ g, v.ownBlock = some g → n₀ ≤ g ∧ g ≠ Bo
  ge : n₀ ≤ Bo
def outFp (Bo : Nat) (v : Value) : List Nat := Bo :: v.ownBlock.toList
theorem OutAt.upd {n₀ : Nat} {w w' : World} {Bo : Nat} {v : Value} {out : List (Int × Int)} {fp : List Nat} (h : OutAt n₀ w Bo v out) (hU : Upd fp w w') (h1 : Bo ∉ fp) (h2 : ∀ k, v.ownBlock = some k → k ∉ fp) : OutAt n₀ w' Bo v out :=
  ⟨h.blk.upd hU h1, h.row.upd hU h2, h.own, h.ge⟩
theorem OutAt.pure {n₀ : Nat} {w w' : World} {Bo : Nat} {v : Value} {out : List (Int × Int)} (h : OutAt n₀ w Bo v out) (hU : Upd [] w w') : OutAt n₀ w' Bo v out := h.upd hU (by simp) (by simp)
theorem OutAt.own_from {β : Type} (B n₀ Bo : Nat) (v : Value) (out : List (Int × Int)) : OwnFrom B (fun (_ : β) W => OutAt n₀ W Bo v out) := fun s W W' row hs hg hr =>
  ⟨blk_own B Bo (fun (_ : Unit) => [v]) _ () W W' row hs.blk hg hr, hs.row.own hg hr, hs.own, hs.ge⟩
theorem OutAt.keeps {n₀ : Nat} {w w' : World} {Bo : Nat} {v : Value} {out : List (Int × Int)} (h : OutAt n₀ w Bo v out) (hU : Upd (outFp Bo v) w w') (B : Nat) : KeepsFrom B w w' :=
  hU.keeps (fun k hk _ => by
    simp only [outFp, List.mem_cons] at hk
    rcases hk with rfl | hk
    · exact h.blk.isc
    · exact h.row.isc k (by simpa using hk))
theorem OutAt.below {n₀ : Nat} {w w' : World} {Bo : Nat} {v : Value} {out : List (Int × Int)} (h : OutAt n₀ w Bo v out) (hU : Upd (outFp Bo v) w w') : Below n₀ w w' :=
  hU.below' (by have := h.ge; have := h.blk.lt; omega) (fun k hk => by
    simp only [outFp, List.mem_cons] at hk
    rcases hk with rfl | hk
    · exact h.ge
    · exact (h.own k (by simpa using hk)).1)
/-- What an append onto a slice variable leaves. -/
theorem OutAt.push {n₀ : Nat} {w w1 w2 : World} {Bo : Nat} {v v' : Value} {out : List (Int × Int)} {x : Int × Int} (h : OutAt n₀ w Bo v out) (hU : Upd [] w w1) (hR : Row w2 24 2 v' (out.length + 1) (flat out ++ [.int .i64 x.1, .int .i64 x.2])) (hU2 : Upd v.ownBlock.toList w1 w2) (hL : Later w1 v v') :
    OutAt n₀ (w2.setCell ⟨Bo, 0, none⟩ v') Bo v' (out ++ [x]) ∧ Upd (outFp Bo v) w (w2.setCell ⟨Bo, 0, none⟩ v') ∧ Later w v v' := by
  have hne : v.ownBlock ≠ some Bo := fun e => (h.own Bo e).2 rfl
  have hb := h.blk.lt
  have hs := hU.size
  have hne' : v'.ownBlock ≠ some Bo := hL.ne (b := Bo) (by omega) hne
  have hL' : Later w v v' := hL.elim .inl (fun ⟨g, a, b⟩ => .inr ⟨g, a, by omega⟩)
  refine ⟨⟨?_, ?_, fun g hg => ?_, h.ge⟩, ?_, hL'⟩
  · exact (((h.blk.upd hU (by simp)).upd hU2 (by simpa using fun e => hne (by simpa using e))).set 0 v')
  · have := hR.setFar v' (a := ⟨Bo, 0, none⟩) hne'
    rw [show (out ++ [x]).length = out.length + 1 by simp, flat_append]
    exact this
  · refine ⟨?_, fun e => hne' (by rw [hg, e])⟩
    rcases hL' with e | ⟨g', e1, e2⟩
    · exact (h.own g (by rw [← e]; exact hg)).1
    · rw [hg] at e1; simp at e1; have := h.ge; omega
  · have h1 : Upd (outFp Bo v) w w2 := (hU.mono (by simp)).trans hU2 (fun k hk => .inl (by simp [outFp]; exact .inr (by simpa using hk)))
    exact h1.setCell (.inl (by simp [outFp])) _
def putP (out : List (Int × Int)) (f t : Int) : List (Int × Int) := out ++ (if f < t then [(f, t)] else [])
set_option maxHeartbeats 1000000 in
theorem put_any (n₀ Bo : Nat) (v : Value) (out : List (Int × Int)) (f t : Int) (w : World) (hO : OutAt n₀ w Bo v out) (hl : out.length ≤ 3000000) :
    Calls Try.prog 29 #[.int .i64 f, .int .i64 t, .pointer (some ⟨Bo, 0, none⟩)] w fun e w' => e = .returned (.tuple #[]) ∧ ∃ v', OutAt n₀ w' Bo v' (putP out f t) ∧ Upd (outFp Bo v) w w' ∧ Later w v v' := by
  obtain ⟨i0, hi, hz0, hz1, hz2⟩ := info_parts infoSpan
  have c0 := hO.blk.cell 0 rfl
  have f0 := hO.blk.frz 0
  have HO := Lib.hid hO
  clear hO
  by_cases h : f < t
  · obtain ⟨va, vc, rfl⟩ := HO.out.row.form
    have hrow := Lib.hid HO.out.row
    go_enter Try.func29, Try.ntmps29
    go_wp2_with (at_builtin; refine wpList_app _ rfl _ _ 34 rfl 24 i0 _ 2 16 Try.underlying34 hi hz0 hz1 hz2 rfl (by omega) (.slice va out.length vc) out.length _ rfl (hrow.out.alloc _) ⟨w.heap.size, 0, none⟩ 1 1 [.int .i64 f, .int .i64 t] rfl rfl (World.news_of_block (cs := #[.int .i64 f, .int .i64 t]) (t := 24) (fr := (0, 0)) (heap_alloc_new _ _)) (by simp [Value.oneCell']) (by unfold maxLen; omega) (by omega) ?_)
    rintro v9 w9 hR9 hU9 hT9
    obtain ⟨va9, vc9, rfl⟩ := hR9.form
    have hne : (Value.slice va out.length vc).ownBlock ≠ some Bo := fun e => (HO.out.own Bo e).2 rfl
    have hB9 := (HO.out.blk.alloc (Obj.cells #[.int .i64 f, .int .i64 t] 24)).upd hU9 (by simpa using hne)
    have k9 := hB9.cell 0 rfl
    have f9 := hB9.frz 0
    go_wp2
    go_end0
    obtain ⟨p1, p2, p3⟩ := HO.out.push (x := (f, t)) ((Upd.refl _ _).alloc _) hR9 hU9 hT9
    refine ⟨rfl, _, ?_, p2, p3⟩
    unfold putP; rw [if_pos h]; exact p1
  · go_enter Try.func29, Try.ntmps29
    go_wp2
    go_end0
    refine ⟨rfl, v, ?_, Upd.refl _ _, .refl _ _⟩
    unfold putP; rw [if_neg (show ¬ f < t by omega), List.append_nil]; exact HO.out
end Go.Proofs.Ytibmhadnfggmlaa
