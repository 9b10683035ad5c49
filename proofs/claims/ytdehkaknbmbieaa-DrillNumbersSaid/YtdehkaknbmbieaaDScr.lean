/- Package drill: the maker's put; Script; lives: walks. -/
import Derived.Test.YtdehkaknbmbieaaDCalm
namespace Go.Proofs.Ytdehkaknbmbieaa
set_option linter.unusedVariables false
set_option linter.unusedSimpArgs false
set_option linter.unusedSectionVars false
open Go.RowKit
set_option linter.unusedVariables false
set_option linter.unusedSimpArgs false

theorem infoEv : (Try.prog.info? 143).map (fun i => (i.zero, i.size, i.bytes)) = some (some (.agg zeroEv.toArray), 9, 112) := by kernel_rfl
theorem evcs_one (e : EvD) : ∀ v ∈ e.cs, v.oneCell' = true := by
  intro v hv
  simp [EvD.cs] at hv
  rcases hv with rfl | rfl | rfl | rfl | rfl | rfl | rfl | rfl | rfl <;> rfl
theorem evcs_len (e : EvD) : e.cs.length = 9 := rfl
/-- A maker and what it has made. -/
structure MakB (w0 w : World) (b mb : Nat) (l : List EvD) : Prop where
  row : ∃ v, Blk w mb [.pointer (some ⟨b, 0, none⟩), v] 140 ∧ Row w 143 9 v l.length (l.flatMap EvD.cs) ∧ (∀ k, v.ownBlock = some k → w0.heap.size ≤ k ∧ k ≠ mb ∧ k ≠ b)
theorem flat_len (l : List EvD) : (l.flatMap EvD.cs).length = l.length * 9 := by
  induction l with
  | nil => rfl
  | cons e l ih => rw [List.flatMap_cons, List.length_append, ih, evcs_len, List.length_cons]; omega
theorem news9 (w : World) (e : EvD) (T : TypeId) : ∀ j u, e.cs[j]? = some u → (w.alloc (.cells e.cs.toArray T)).cell? ((⟨w.heap.size, 0, none⟩ : Addr).add j) = some u := World.news_of_block (cs := e.cs.toArray) (t := T) (fr := (0, 0)) (heap_alloc_new _ _)
def PutP (w0 : World) (b mb x : Nat) (l : List EvD) (w : World) (e : Ending) (w' : World) : Prop := e = .returned (.tuple #[]) ∧ MakB w0 w' b mb l ∧ DiceB w' b x ∧ ∀ fp, (∀ k, k = mb → k ∈ fp ∨ w0.heap.size ≤ k) → Upd fp w0 w → Upd fp w0 w'
set_option maxRecDepth 100000 in
set_option maxHeartbeats 3200000 in
theorem put_any (w0 : World) (b mb x g : Nat) (l : List EvD) (e : EvD) (w : World) (hM : MakB w0 w b mb l) (hD : DiceB w b x) (hb : b ≠ mb) (hs : w0.heap.size ≤ w.heap.size) (hl : l.length ≤ 1000)
    (hg : ∀ j u, e.cs[j]? = some u → w.cell? ((⟨g, 0, none⟩ : Addr).add j) = some u) :
    Calls Try.prog 91 #[.pointer (some ⟨mb, 0, none⟩), .slice (some ⟨g, 0, none⟩) 1 1] w fun e' w' => PutP w0 b mb x (l ++ [e]) w e' w' := by
  obtain ⟨v, hB, hR, hO⟩ := hM.row
  obtain ⟨i0, hi, hz0, hz1, hz2⟩ := info_parts infoEv
  have c1 := hB.cell 1 rfl
  have HB := Lib.hid hB
  have HO := Lib.hid hO
  have HD := Lib.hid hD
  have HG := Lib.hid hg
  have h1c := Lib.hid (evcs_one e)
  have hbl := hD.lt
  have hml := hB.lt
  obtain ⟨n, hn⟩ : ∃ n, l.length = n := ⟨_, rfl⟩
  have HN := Lib.hid hn
  rw [hn] at hR hl
  obtain ⟨va, vc, rfl⟩ := hR.form
  clear hB hO hD hg hM hn
  go_enter Try.func91, Try.ntmps91
  go_wp2_with (at_builtin; refine wpList_app _ rfl _ _ 108 rfl 143 i0 _ 9 112 Try.underlying108 hi hz0 hz1 hz2 rfl (by omega) (.slice va n vc) n _ rfl hR ⟨g, 0, none⟩ 1 1 e.cs rfl rfl HG.out h1c.out (by unfold maxLen; omega) (by omega) ?_)
  intro v5 w5 hR5 hU5 hT5
  obtain ⟨a5, c5, rfl⟩ := hR5.form
  have hno : ∀ k, (Value.slice a5 (n + 1) c5).ownBlock = some k → w0.heap.size ≤ k ∧ k ≠ mb ∧ k ≠ b := fun k hk => by
    rcases hT5 with h | ⟨g', h1, h2⟩
    · exact HO.out k (by rw [← h]; exact hk)
    · rw [hk] at h1; cases h1; omega
  have hB5 := HB.out.upd hU5 (fun hm => by have := HO.out mb (by simpa using hm); omega)
  have hD5 := HD.out.upd hU5 (fun hm => by have := HO.out b (by simpa using hm); omega)
  have d1 := hB5.cell 1 rfl
  have f1 := hB5.frz 1
  have HB5 := Lib.hid hB5
  have HD5 := Lib.hid hD5
  have HNO := Lib.hid hno
  have HR5 := Lib.hid hR5
  have HU5 := Lib.hid hU5
  clear hB5 hD5 hno hR5 hU5 hT5
  go_wp2
  go_returns
  refine ⟨rfl, ⟨_, HB5.out.set 1 _, ?_, HNO.out⟩, HD5.out.upd ((Upd.refl [mb] w5).setCell (p := ⟨mb, 1, none⟩) (.inl (by simp)) _) (by simp; omega), fun fp hfp hU => ?_⟩
  · rw [List.length_append, HN.out, List.flatMap_append, List.flatMap_singleton]
    exact HR5.out.setFar _ (fun h => by have := HNO.out mb h; omega)
  · exact (hU.trans HU5.out (fun k hk => .inr (HO.out k (by simpa using hk)).1)).setCell (hfp mb rfl) _
/-- The calm events, one behind the other. -/
inductive ScrTo (x0 : Nat) : List EvD → Nat → Prop
  | nil : ScrTo x0 [] x0
  | snoc {l : List EvD} {x : Nat} {e : EvD} {x' : Nat} : ScrTo x0 l x → CalmRel x e x' → ScrTo x0 (l ++ [e]) x'
def clampN (n : Int) : Nat := (max 0 (min n 200)).toNat
def ScrP (x0 : Nat) (n : Int) (w : World) (e : Ending) (w' : World) : Prop := ∃ (v : Value) (l : List EvD) (x : Nat), e = .returned v ∧ l.length = clampN n ∧ ScrTo x0 l x ∧ Row w' 143 9 v l.length (l.flatMap EvD.cs) ∧ (∀ k, v.ownBlock = some k → w.heap.size ≤ k) ∧ Upd [] w w'
theorem MakB.upd {w0 w w' : World} {b mb : Nat} {l : List EvD} {fp : List Nat} (h : MakB w0 w b mb l) (hU : Upd fp w w') (hm : mb ∉ fp) (hf : ∀ k, w0.heap.size ≤ k → k ≠ mb → k ≠ b → k ∉ fp) : MakB w0 w' b mb l := by
  obtain ⟨v, h1, h2, h3⟩ := h.row
  exact ⟨v, h1.upd hU hm, h2.upd hU (fun k hk => hf k (h3 k hk).1 (h3 k hk).2.1 (h3 k hk).2.2), h3⟩
set_option maxRecDepth 100000 in
set_option maxHeartbeats 3200000 in
theorem script_any (x0 : Nat) (n : Int) (w : World) (hx : x0 < 18446744073709551616) (h1 : -9223372036854775808 ≤ n) (h2 : n ≤ 9223372036854775807) :
    Calls Try.prog 68 #[.int .u64 (x0 : Int), .int .i64 n] w fun e w' => ScrP x0 n w e w' := by
  have HN := Lib.hid (dnew_any x0 w hx)
  obtain ⟨c, hc⟩ : ∃ c, clampN n = c := ⟨_, rfl⟩
  have hcm : max 0 (min n 200) = (c : Int) := by rw [← hc]; unfold clampN; omega
  have hc200 : c ≤ 200 := by omega
  have HC := Lib.hid hc
  clear hc
  go_enter Try.func68, Try.ntmps68
  go_wp2_with fail
  refine HN.out.mono ?_
  rintro e w1 ⟨rfl, hD1, hU1⟩
  have hbl := hD1.lt
  have hM2 : MakB w (w1.alloc (.cells #[.pointer (some ⟨w.heap.size, 0, none⟩), .slice none 0 0] 140)) w.heap.size w1.heap.size [] := ⟨_, Blk.new w1 [.pointer (some ⟨w.heap.size, 0, none⟩), .slice none 0 0] _, Row.nil _ _ _, fun k hk => by simp [Value.ownBlock] at hk⟩
  have hD2 := hD1.upd ((Upd.refl [] w1).alloc (.cells #[.pointer (some ⟨w.heap.size, 0, none⟩), .slice none 0 0] 140)) (by simp)
  have hU2 := hU1.alloc (.cells #[.pointer (some ⟨w.heap.size, 0, none⟩), .slice none 0 0] 140)
  have hsz1 := hU1.size
  have HM2 := Lib.hid hM2
  have HD2 := Lib.hid hD2
  have HU2 := Lib.hid hU2
  clear hM2 hD2 hU2 hD1 hU1 HN
  go_wp2
  generalize w1.alloc (.cells #[.pointer (some ⟨w.heap.size, 0, none⟩), .slice none 0 0] 140) = w2 at *
  generalize hmb : w1.heap.size = mb at *
  generalize hb : w.heap.size = b at *
  have HB := Lib.hid hb
  clear hb hmb
  have hbm : b ≠ mb := by omega
  go_loopg [13] 200 (fun gg s13 wr => ∃ (i : Nat) (l : List EvD) (x : Nat), i ≤ c ∧ gg = 200 - i ∧ s13 = .int .i64 (i : Nat) ∧ Hid (l.length = i) ∧ Hid (ScrTo x0 l x) ∧ Hid (MakB w wr b mb l) ∧ Hid (DiceB wr b x) ∧ Hid (Upd [] w wr))
  case atStart => exact ⟨0, [], x0, by omega, by omega, rfl, Lib.hid rfl, Lib.hid .nil, HM2, HD2, HU2⟩
  case round =>
    obtain ⟨i, l, x, hic, rfl, rfl, HL, HS, HM, HD, HU⟩ := hrel
    by_cases hc : i < c
    · have hcz : (i : Int) < (c : Int) := by omega
      have hw1 : IntKind.i64.wrap ((i : Int) + 1) = ((i + 1 : Nat) : Int) := by rw [IntWalk.i64_in _ (by omega)]; rfl
      obtain ⟨v, hv1, _, _⟩ := HM.out.row
      have HCA := Lib.hid (calm_any b mb x v wr HD.out hv1 (by omega))
      clear hv1
      go_wp2_with fail
      refine HCA.out.mono ?_
      rintro e w3 ⟨ev, x', rfl, hrel, hD3, hU3⟩
      have hM3 := HM.out.upd hU3 (by simp; omega) (fun k h1 h2 h3 => by simp; exact h3)
      have hs3 : w.heap.size ≤ (w3.alloc (.cells ev.cs.toArray 143)).heap.size := by have := HU.out.size; have := hU3.size; simp; omega
      have HPU := Lib.hid (put_any w b mb x' w3.heap.size l ev (w3.alloc (.cells ev.cs.toArray 143)) (hM3.upd ((Upd.refl [] w3).alloc _) (by simp) (fun _ _ _ _ => by simp)) (hD3.upd ((Upd.refl [] w3).alloc _) (by simp)) hbm hs3 (by rw [HL.out]; omega) (news9 w3 ev _))
      have HU3 : Hid (Upd [] w (w3.alloc (.cells ev.cs.toArray 143))) := Lib.hid ((HU.out.trans hU3 (fun k hk => .inr (by simp at hk; rw [hk, HB.out]; exact Nat.le_refl _))).alloc _)
      have HS3 := Lib.hid (ScrTo.snoc HS.out hrel)
      clear hrel hD3 hU3 hM3 hs3 HCA HM HD HU HS
      obtain ⟨op, path, dest, ek, em, et, eD, en⟩ := ev
      simp only [EvD.cs] at *
      go_wp2_with fail
      refine HPU.out.mono ?_
      rintro e w4 ⟨rfl, hM4, hD4, hU4⟩
      have HM4 := Lib.hid hM4
      have HD4 := Lib.hid hD4
      have HU4 := Lib.hid (hU4 [] (fun k hk => .inr (by rw [hk, HB.out]; omega)) HU3.out)
      clear hM4 hD4 hU4 HPU
      go_wp2
      go_roundg (200 - (i + 1))
      · exact ⟨i + 1, _, x', by omega, rfl, by first | rfl | go_num, Lib.hid (by rw [List.length_append, HL.out]; rfl), HS3, HM4, HD4, HU4⟩
      · omega
    · have hcz : ¬ (i : Int) < (c : Int) := by omega
      obtain rfl : i = c := by omega
      obtain ⟨v, hv1, hv2, hv3⟩ := HM.out.row
      have d1 := hv1.cell 1 rfl
      have HV2 := Lib.hid hv2
      have HV3 := Lib.hid hv3
      clear hv1 hv2 hv3
      go_wp2
      go_ret
      exact ⟨v, l, x, rfl, by rw [HL.out, HC.out], HS.out, HV2.out, fun k hk => (HV3.out k hk).1, HU.out⟩
set_option maxRecDepth 100000 in
set_option maxHeartbeats 3200000 in
theorem dlives_any (w : World) : Calls Try.prog 35 #[] w fun e w' => e = .returned (.bool true) ∧ Upd [] w w' := by
  have HN := Lib.hid (dnew_any 1 w (by omega))
  have HS := Lib.hid (fun w => script_any 1 3 w (by omega) (by omega) (by omega))
  have e0 : belowI 1 0 = 0 := by unfold belowI; rw [if_pos (by omega)]
  have HE := Lib.hid e0
  have HCL : Hid (clampN 3 = 3) := Lib.hid (by decide)
  clear e0
  go_enter Try.func35, Try.ntmps35
  go_wp2_with fail
  refine HN.out.mono ?_
  rintro e w1 ⟨rfl, hD1, hU1⟩
  have HBW := Lib.hid (dbelow_any w.heap.size 1 0 w1 hD1 (by omega))
  have HU1 := Lib.hid hU1
  clear hD1 hU1 HN
  go_wp2_with fail
  refine HBW.out.mono ?_
  rintro e w2 ⟨rfl, hD2, hU2⟩
  rw [HE.out]
  have HU2 := Lib.hid (HU1.out.trans hU2 (fun k hk => .inr (by simp at hk; omega)))
  clear hD2 hU2 HBW
  go_wp2_with fail
  refine (HS.out _).mono ?_
  rintro e w3 ⟨v, l, x, rfl, hl, _, hR, _, hU3⟩
  rw [hl, HCL.out] at hR
  obtain ⟨a, cp, rfl⟩ := hR.form
  have HU3 := Lib.hid (HU2.out.then hU3)
  clear hR hl hU3 HS
  go_wp2
  go_ret
  exact ⟨rfl, HU3.out⟩
end Go.Proofs.Ytdehkaknbmbieaa
