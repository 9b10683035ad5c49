/- The walk of the law BitioWrites. -/
import Derived.Test.YtcddlnmfdjfjfaaRef3b
import Derived.Deep.CutBlock
namespace Go.Proofs.Ytcddlnmfdjfjfaa
open Go.RowKit

/-- The steps that came in, cell by cell. -/
def StepsIn (w : World) (a : Option Addr) (len : Nat) (st : Nat → Nat × Nat × Int × ByteArray) : Prop :=
  ∀ i, i < len → ∃ b off, a = some ⟨b, off, none⟩ ∧
    w.cell? ⟨b, off + i * 4, none⟩ = some (.int .u64 ((st i).1 : Nat)) ∧ w.cell? ⟨b, off + i * 4 + 1, none⟩ = some (.int .u32 ((st i).2.1 : Nat)) ∧
    w.cell? ⟨b, off + i * 4 + 2, none⟩ = some (.int .i64 (st i).2.2.1) ∧ w.cell? ⟨b, off + i * 4 + 3, none⟩ = some (.string (st i).2.2.2) ∧
    (st i).1 < 18446744073709551616 ∧ (st i).2.1 < 4294967296 ∧ -9223372036854775808 ≤ (st i).2.2.1 ∧ (st i).2.2.1 ≤ 9223372036854775807 ∧ (st i).2.2.2.size ≤ 9223372036854775807

theorem StepsIn.upd {w wr : World} {a : Option Addr} {len : Nat} {st : Nat → Nat × Nat × Int × ByteArray} (h : StepsIn w a len st) (hU : Upd [] w wr) : StepsIn wr a len st := fun i hi => by
  obtain ⟨b, off, rfl, c0, c1, c2, c3, r⟩ := h i hi
  have hb : b < w.heap.size := World.block_lt_of_cell? w _ c0
  exact ⟨b, off, rfl, (hU.at hb (by simp) _).trans c0, (hU.at hb (by simp) _).trans c1, (hU.at hb (by simp) _).trans c2, (hU.at hb (by simp) _).trans c3, r⟩

theorem extract_whole (s : ByteArray) : s.extract 0 s.size = s := by simp
theorem wr_new (w : World) : WrAt (w.alloc (.cells #[.slice none 0 0, .int .u64 0, .int .i64 0] 26)) w.heap.size (.slice none 0 0) [] 0 :=
  ⟨Blk.new w [.slice none 0 0, .int .u64 0, .int .i64 0] _, Row.nil _ _ _, Nat.le_refl _, by simp [Value.ownBlock]⟩
theorem rw_new (w : World) : RwAt (w.alloc (.cells #[.slice none 0 0] 29)) w.heap.size (.slice none 0 0) [] :=
  ⟨Blk.new w [.slice none 0 0] _, Row.nil _ _ _, by simp [Value.ownBlock]⟩

set_option maxHeartbeats 1600000 in
theorem lives3 (w : World) : Calls Try.prog 20 #[] w fun e w' => e = .returned (.bool true) ∧ Upd [] w w' := by
  have hK1 : Hid (((1 : Nat) : Int) = max 0 (min 1 32)) := Lib.hid (by omega)
  have hK2 : Hid (((2 : Nat) : Int) = max 0 (min 2 32)) := Lib.hid (by omega)
  have hS : strOf (pack ([] ++ low 1 1 ++ low 2 2)) = ⟨#[5]⟩ := by decide
  have HS := Lib.hid hS
  clear hS
  go_enter Try.func20, Try.ntmps20
  go_wp2_with fail
  refine (bits_any _ 1 1 1 1 _ _ [] rfl (by omega) (wr_new w) (by simp) (by omega) hK1).mono ?_
  rintro e w1 ⟨rfl, v1, hW1, hU1, hT1⟩
  go_wp2_with fail
  refine (bits_any _ 2 2 2 2 _ _ _ rfl (by omega) hW1 (by simp [low]) (by omega) hK2).mono ?_
  rintro e w2 ⟨rfl, v2, hW2, hU2, hT2⟩
  go_wp2_with fail
  refine (bytes_any _ _ _ _ hW2 (by simp [low])).mono ?_
  rintro e w3 ⟨rfl, hU3⟩
  rw [HS.out]
  go_wp2_with fail
  refine (len_any _ _ _ _ (hW2.upd hU3 (by simp) (by simp)) (by simp [low])).mono ?_
  rintro e w4 ⟨rfl, n4, rfl⟩
  have hl : (([] ++ low 1 1 ++ low 2 2).length : Int) = 3 := rfl
  rw [hl]
  go_wp2
  go_returns
  refine ⟨rfl, ?_⟩
  have h1 : Upd [] w w1 := ((Upd.refl [] w).alloc _).trans hU1 (fun k hk => by simp [wrFp, Value.ownBlock] at hk; right; omega)
  have h2 : Upd [] w w2 := h1.trans hU2 (fun k hk => by
    simp only [wrFp, List.mem_cons] at hk
    rcases hk with hk | hk
    · right; omega
    · rcases hT1.fp k hk with h | h
      · simp [Value.ownBlock] at h
      · right; simp at h; omega)
  exact (h2.then hU3).drewN _
/-- Both writers, at the same time: where they lie, and that they lie apart. -/
structure LW (w0 : World) (bw bx : Nat) (vw vx : Value) (wr : World) (Lw Lx : List Bool) : Prop where
  hw : WrAt wr bw vw Lw (Lw.length / 8)
  hx : RwAt wr bx vx Lx
  s1 : vw.ownBlock ≠ some bx
  s2 : vx.ownBlock ≠ some bw
  s3 : ∀ k, vw.ownBlock = some k → vx.ownBlock ≠ some k
  ne : bw ≠ bx
  gw : w0.heap.size ≤ bw
  gx : w0.heap.size ≤ bx
  gvw : ∀ k, vw.ownBlock = some k → w0.heap.size ≤ k
  gvx : ∀ k, vx.ownBlock = some k → w0.heap.size ≤ k
  up : Upd [] w0 wr
section
variable {w0 wr w' : World} {bw bx : Nat} {vw vx v' : Value} {Lw Lx L' : List Bool}
theorem LW.stepW (h : LW w0 bw bx vw vx wr Lw Lx) (hw : WrAt w' bw v' L' (L'.length / 8)) (hU : Upd (wrFp bw vw) wr w') (hT : Later wr vw v') : LW w0 bw bx v' vx w' L' Lx where
  hw := hw
  hx := h.hx.upd hU (by simp only [wrFp, List.mem_cons, not_or]; exact ⟨fun e => h.ne e.symm, fun e => h.s1 (by simpa using e)⟩)
    (fun k hk => by
      simp only [wrFp, List.mem_cons, not_or]
      exact ⟨fun e => h.s2 (by rw [hk, e]), fun e => h.s3 k (by simpa using e) hk⟩)
  s1 := hT.ne h.hx.blk.lt h.s1
  s2 := h.s2
  s3 := fun k hk hx => by
    rcases hT with e | ⟨g, e1, e2⟩
    · exact h.s3 k (by rw [← e]; exact hk) hx
    · have := h.hx.row.lt k hx
      rw [e1] at hk; simp at hk; omega
  ne := h.ne
  gw := h.gw
  gx := h.gx
  gvw := fun k hk => by
    rcases hT with e | ⟨g, e1, e2⟩
    · exact h.gvw k (by rw [← e]; exact hk)
    · have := h.up.size
      rw [e1] at hk; simp at hk; omega
  gvx := h.gvx
  up := h.up.trans hU (fun k hk => by
    simp only [wrFp, List.mem_cons] at hk
    right
    rcases hk with e | e
    · rw [e]; exact h.gw
    · exact h.gvw k (by simpa using e))
theorem LW.stepX (h : LW w0 bw bx vw vx wr Lw Lx) (hx : RwAt w' bx v' L') (hU : Upd (wrFp bx vx) wr w') (hT : Later wr vx v') : LW w0 bw bx vw v' w' Lw L' where
  hw := h.hw.upd hU (by simp only [wrFp, List.mem_cons, not_or]; exact ⟨fun e => h.ne e, fun e => h.s2 (by simpa using e)⟩)
    (fun k hk => by
      simp only [wrFp, List.mem_cons, not_or]
      exact ⟨fun e => h.s1 (by rw [hk, e]), fun e => h.s3 k hk (by simpa using e)⟩)
  hx := hx
  s1 := h.s1
  s2 := hT.ne h.hw.blk.lt h.s2
  s3 := fun k hk hx => by
    rcases hT with e | ⟨g, e1, e2⟩
    · exact h.s3 k hk (by rw [← e]; exact hx)
    · have := h.hw.row.lt k hk
      rw [e1] at hx; simp at hx; omega
  ne := h.ne
  gw := h.gw
  gx := h.gx
  gvw := h.gvw
  gvx := fun k hk => by
    rcases hT with e | ⟨g, e1, e2⟩
    · exact h.gvx k (by rw [← e]; exact hk)
    · have := h.up.size
      rw [e1] at hk; simp at hk; omega
  up := h.up.trans hU (fun k hk => by
    simp only [wrFp, List.mem_cons] at hk
    right
    rcases hk with e | e
    · rw [e]; exact h.gx
    · exact h.gvx k (by simpa using e))
theorem LW.pure (h : LW w0 bw bx vw vx wr Lw Lx) (hU : Upd [] wr w') : LW w0 bw bx vw vx w' Lw Lx :=
  { h with hw := h.hw.upd hU (by simp) (by simp), hx := h.hx.upd hU (by simp) (by simp), up := h.up.then hU }
end
def LWs (w0 : World) (bw bx : Nat) (wr : World) (L : List Bool) : Prop := ∃ vw vx, LW w0 bw bx vw vx wr L L
theorem LWs_new (w : World) : LWs w w.heap.size (w.heap.size + 1) ((w.alloc (.cells #[.slice none 0 0, .int .u64 0, .int .i64 0] 26)).alloc (.cells #[.slice none 0 0] 29)) [] := by
  have h1 := (wr_new w).upd (fp := []) ((Upd.refl [] _).alloc (.cells #[.slice none 0 0] 29)) (by simp) (by simp)
  have h2 := rw_new (w.alloc (.cells #[.slice none 0 0, .int .u64 0, .int .i64 0] 26))
  rw [World.size_alloc] at h2
  exact ⟨_, _, h1, h2, by simp [Value.ownBlock], by simp [Value.ownBlock], by simp [Value.ownBlock], by omega, by omega, by omega, by simp [Value.ownBlock], by simp [Value.ownBlock], ((Upd.refl [] w).alloc _).alloc _⟩

set_option maxRecDepth 100000 in
set_option maxHeartbeats 3200000 in
theorem law_bitioWrites (a : Option Addr) (len cap : Nat) (st : Nat → Nat × Nat × Int × ByteArray) (w : World) (hlc : len ≤ cap) (hcap : cap ≤ 9223372036854775807) (hst : StepsIn w a len st) :
    Calls Try.prog 3 #[.slice a len cap] w fun e w' => e = .returned (.bool true) ∧ Upd [] w w' := by
  have HST := Lib.hid hst
  clear hst
  have hn40 : min len 40 ≤ 40 := Nat.min_le_right _ _
  have hnl : min len 40 ≤ len := Nat.min_le_left _ _
  have hmin : Hid (min (len : Int) 40 = ((min len 40 : Nat) : Int)) := Lib.hid (by omega)
  generalize min len 40 = n at *
  go_enter Try.func3, Try.ntmps3
  go_upto_region 1 with fail
  go_cut [0] (fun s0 wx => s0 = .slice a n cap ∧ w = wx)
  case first =>
    go_wp2
    all_goals go_meet
    all_goals (refine ⟨?_, rfl⟩; have := hmin.out; congr 1; omega)
  case rest =>
    obtain ⟨rfl, rfl⟩ := hcut
    go_wp2
    go_loopg [16] n (fun g s16 wr => ∃ i L, i ≤ n ∧ g = n - i ∧ s16 = .int .i64 (i : Nat) ∧ L.length ≤ 500 * i ∧ LWs w w.heap.size (w.heap.size + 1) wr L)
    case atStart => exact ⟨0, [], by omega, rfl, rfl, by simp, LWs_new w⟩
    case round =>
      obtain ⟨i, L, hin, rfl, rfl, hL, vw, vx, hlw⟩ := hrel
      by_cases hc : i < n
      · obtain ⟨b, off, rfl, c0, c1, c2, c3, k1, k2, k3, k4, k5⟩ := (HST.out.upd hlw.up) i (by omega)
        have hcz : (i : Int) < (n : Int) := by omega
        generalize (st i).1 = kind at *
        generalize (st i).2.1 = V at *
        generalize (st i).2.2.1 = N at *
        generalize (st i).2.2.2 = S at *
        go_upto_region 8 with fail
        go_cut [8] (fun s8 wx => s8 = .string (S.extract 0 (min S.size 50)) ∧ wr.alloc (.cells #[.int .u64 (kind : Nat), .int .u32 (V : Nat), .int .i64 N, .string S] 34) = wx)
        case first =>
          go_wp2
          all_goals go_meet
          all_goals (refine ⟨?_, rfl⟩; first | (rw [Nat.min_eq_right (by omega)]; done) | (rw [Nat.min_eq_left (by omega), extract_whole]))
        case rest =>
          obtain ⟨rfl, rfl⟩ := hcut
          have hTs : (S.extract 0 (min S.size 50)).size ≤ 50 := by simp; omega
          generalize S.extract 0 (min S.size 50) = T at *
          go_upto_block 2 with fail
          go_cut [29] (fun _ wx => ∃ L', L'.length ≤ 500 * (i + 1) ∧ LWs w w.heap.size (w.heap.size + 1) wx L')
          case first =>
            have hlw1 := hlw.pure ((Upd.refl [] wr).alloc (.cells #[.int .u64 (kind : Nat), .int .u32 (V : Nat), .int .i64 N, .string S] 34))
            have hP := Blk.new wr [.int .u64 (kind : Nat), .int .u32 (V : Nat), .int .i64 N, .string S] 34
            have hPn : wr.heap.size ∉ wrFp w.heap.size vw := by
              have := hlw.hw.blk.lt
              simp only [wrFp, List.mem_cons, not_or]
              exact ⟨by omega, fun e => by have := hlw.hw.row.lt _ (by simpa using e); omega⟩
            have hPx : wr.heap.size ∉ wrFp (w.heap.size + 1) vx := by
              have := hlw.hx.blk.lt
              simp only [wrFp, List.mem_cons, not_or]
              exact ⟨by omega, fun e => by have := hlw.hx.row.lt _ (by simpa using e); omega⟩
            have hlen2 : L.length ≤ 20000 := by omega
            clear c0 c1 c2 c3
            have HP := Lib.hid hP
            have p1 := hP.cell 1 rfl
            have p2 := hP.cell 2 rfl
            clear hP
            by_cases hk0 : kind % 3 = 0
            · have hk : ((kind : Int) % 3) = 0 := by omega
              obtain ⟨K, hK32, hK⟩ : ∃ K : Nat, K ≤ 32 ∧ Hid ((K : Int) = max 0 (min N 32)) := ⟨(max 0 (min N 32)).toNat, by omega, Lib.hid (by omega)⟩
              clear hk0
              go_wp2_with fail
              refine (bits_any _ V _ _ K _ vw L rfl k2 hlw1.hw (by omega) hK32 hK).mono ?_
              rintro e w2 ⟨rfl, v2, hW2, hU2, hT2⟩
              have hlw2 := hlw1.stepW hW2 hU2 hT2
              have hP2 := HP.out.upd hU2 hPn
              have p1 := hP2.cell 1 rfl
              have p2 := hP2.cell 2 rfl
              go_wp2_with fail
              refine (rbits_any _ V _ _ K _ vx L rfl k2 hlw2.hx (by omega) hK32 hK).mono ?_
              rintro e w3 ⟨rfl, v3, hW3, hU3, hT3⟩
              have hlw3 := hlw2.stepX hW3 hU3 hT3
              have hP3 := hP2.upd hU3 hPx
              have p1 := hP3.cell 1 rfl
              have p2 := hP3.cell 2 rfl
              go_wp2_with fail
              refine (bits_nil _ _ _).mono ?_
              rintro e w4 ⟨rfl, rfl⟩
              go_wp2_with fail
              go_meet
              exact ⟨L ++ low K V, by rw [List.length_append, length_low]; omega, v2, v3, hlw3⟩
            · by_cases hk1 : kind % 3 = 1
              · have hk : ((kind : Int) % 3) = 1 := by omega
                clear hk0 hk1
                go_wp2_with fail
                refine (align_any _ _ vw L hlw1.hw (by omega)).mono ?_
                rintro e w2 ⟨rfl, v2, hW2, hU2, hT2⟩
                have hlw2 := hlw1.stepW hW2 hU2 hT2
                go_wp2_with fail
                refine (ralign_any _ _ vx L hlw2.hx (by omega)).mono ?_
                rintro e w3 ⟨rfl, v3, hW3, hU3, hT3⟩
                have hlw3 := hlw2.stepX hW3 hU3 hT3
                go_wp2_with fail
                refine (align_nil _).mono ?_
                rintro e w4 ⟨rfl, rfl⟩
                go_wp2_with fail
                go_meet
                exact ⟨alignL L, by rw [length_alignL]; omega, v2, v3, hlw3⟩
              · have hk : ((kind : Int) % 3) = 2 := by omega
                clear hk0 hk1
                go_wp2_with fail
                refine (text_any _ T _ vw L hlw1.hw (by omega) (by omega)).mono ?_
                rintro e w2 ⟨rfl, v2, hW2, hU2, hT2⟩
                have hlw2 := hlw1.stepW hW2 hU2 hT2
                go_wp2_with fail
                refine (rtext_any _ T _ vx L hlw2.hx (by omega) (by omega)).mono ?_
                rintro e w3 ⟨rfl, v3, hW3, hU3, hT3⟩
                have hlw3 := hlw2.stepX hW3 hU3 hT3
                go_wp2_with fail
                refine (text_nil _ _).mono ?_
                rintro e w4 ⟨rfl, rfl⟩
                go_wp2_with fail
                go_meet
                exact ⟨alignL L ++ textBits (bytesOf T), by rw [List.length_append, length_alignL, length_textBits, length_bytesOf]; omega, v2, v3, hlw3⟩
          case rest =>
            obtain ⟨L', hL', vw', vx', hlw'⟩ := hcut
            have hlen3 : L'.length ≤ 20000 := by omega
            clear c0 c1 c2 c3
            have g0 := hlw'.hx.blk.cell 0 rfl
            obtain ⟨ax, cx, rfl⟩ := hlw'.hx.row.form
            go_upto_region 21 with fail
            go_cut [70] (fun s70 wx => s70 = .bool false ∧ Upd [] wc wx)
            case first =>
              go_region_held3 (fun w' => w'.cell? ⟨w.heap.size + 1, 0, none⟩ = some (.slice ax L'.length cx) ∧ Upd [] wc w')
                ((go_split_ands; refine ⟨?_, ?_⟩ <;> first | (exact (Upd.refl _ _).drew) | (exact (Upd.refl _ _).drewN _) | (exact Upd.drewN (by assumption) _) | (exact Upd.then (by assumption) (by assumption)) | go_keep | (refine (Upd.at (by assumption) ?_ (by simp) _).trans (by assumption); refine Nat.lt_of_lt_of_le hlw'.hx.blk.lt (Upd.size (by assumption)))))
                (first
                  | (go_at_call 17; go_split_ands; refine (len_any _ _ vw' L' (by exact hlw'.hw.upd (by assumption) (by simp) (by simp)) (by omega)).mono ?_; rintro e w4 ⟨rfl, n4, rfl⟩)
                  | (go_at_call 18; go_split_ands; refine (bytes_any _ _ vw' L' (by exact hlw'.hw.upd (by assumption) (by simp) (by simp)) (by omega)).mono ?_; rintro e w4 ⟨rfl, hU4⟩)
                  | (go_at_call 19; go_split_ands; refine (rbytes_any _ _ _ L' (by exact hlw'.hx.upd (by assumption) (by simp) (by simp)) (by omega)).mono ?_; rintro e w4 ⟨rfl, hU4⟩))
              go_wp2_with fail
              go_meet
              go_split_ands
              exact ⟨rfl, by assumption⟩
            case rest =>
              obtain ⟨rfl, hU5⟩ := hcut
              go_wp2
              go_roundg (n - (i + 1))
              case measure => omega
              case rel => exact ⟨i + 1, L', by omega, rfl, by go_num, hL', vw', _, hlw'.pure hU5⟩
      · have hcz : ¬ ((i : Int) < (n : Int)) := by omega
        go_wp2_with (first
          | (go_at_call 17; refine (len_nil _).mono ?_; rintro e w4 ⟨rfl, rfl⟩)
          | (go_at_call 18; refine (bytes_nil _).mono ?_; rintro e w4 ⟨rfl, rfl⟩)
          | (go_at_call 20; refine (lives3 _).mono ?_; rintro e w4 ⟨rfl, hU4⟩))
        go_returns
        exact ⟨rfl, hlw.up.then hU4⟩
end Go.Proofs.Ytcddlnmfdjfjfaa
