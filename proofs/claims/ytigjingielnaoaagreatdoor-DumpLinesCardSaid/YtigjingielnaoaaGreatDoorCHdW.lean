/- Package central: fields: its walk. -/
import Derived.Laws.EntriesVeiled
import Derived.Test.YtigjingielnaoaaGreatDoorQAJ
import Derived.Test.YtigjingielnaoaaGreatDoorQAZ
set_option linter.unusedVariables false
set_option linter.unusedSimpArgs false
set_option linter.unusedSectionVars false
namespace Go.Proofs.YtigjingielnaoaaGreatDoor
open Go.RowKit
set_option maxRecDepth 100000 in
theorem qw (b bx k v:Nat) (r r':RS) (w:World) (h:r.num k=(v,r')) (hB:Rdr w b r) (hX:w.cell? ⟨bx,0,none⟩=some (.func (.func 88) #[.pointer (some ⟨b,0,none⟩)] #[])) (hs:r.s.size≤1000000) (hp:r.p≤r.s.size) (hk:k≤4) (hv:v<4294967296) :
 Calls Tryz.prog 196 #[.int .i64 (k:Nat),.pointer (some ⟨bx,0,none⟩)] w fun e w'=>e = .returned (.int .i64 (v:Nat))∧Rdr w' b r'∧Upd [b] w w':=by
 have HN:=Lib.hid (zs b k v r r' w h hB hs hp (by omega))
 clear hB h
 go_enter Tryz.func196,Tryz.ntmps196
 go_wp2_with fail
 refine HN.out.mono ?_
 rintro e w1 ⟨rfl,hF⟩
 go_wp2
 go_ret
 exact ⟨rfl,hF⟩
def ChD.cells (h:ChD):List Value:=[.string .empty,.int .i64 (h.m:Nat),.int .u32 (h.sum:Nat),.int .i64 (h.l:Nat),.int .i64 (h.wh:Nat),.int .i64 0,.int .i64 0,.int .u32 (h.t:Nat),.int .i64 (h.pos:Nat),.int .u64 (h.beg:Nat),.int .u64 (h.flags:Nat),.int .u64 (h.disk:Nat),.int .i64 (h.attr:Nat),.string (zf h.name)]
theorem Blk.set14 {w:World} {b:Nat} {a0 a1 a2 a3 a4 a5 a6 a7 a8 a9 a10 a11 a12 a13:Value} {t:TypeId} (h:Blk w b [a0,a1,a2,a3,a4,a5,a6,a7,a8,a9,a10,a11,a12,a13] t) (v0 v1 v2 v3 v4 v5 v6 v7 v8 v9 v10 v11 v12 v13:Value):Blk ((((((((((((((w.setCell ⟨b,0,none⟩ v0).setCell ⟨b,1,none⟩ v1).setCell ⟨b,2,none⟩ v2).setCell ⟨b,3,none⟩ v3).setCell ⟨b,4,none⟩ v4).setCell ⟨b,5,none⟩ v5).setCell ⟨b,6,none⟩ v6).setCell ⟨b,7,none⟩ v7).setCell ⟨b,8,none⟩ v8).setCell ⟨b,9,none⟩ v9).setCell ⟨b,10,none⟩ v10).setCell ⟨b,11,none⟩ v11).setCell ⟨b,12,none⟩ v12).setCell ⟨b,13,none⟩ v13) b [v0,v1,v2,v3,v4,v5,v6,v7,v8,v9,v10,v11,v12,v13] t:=(Blk.set (Blk.set (Blk.set (Blk.set (Blk.set (Blk.set (Blk.set (Blk.set (Blk.set (Blk.set (Blk.set (Blk.set (Blk.set (Blk.set h 0 v0) 1 v1) 2 v2) 3 v3) 4 v4) 5 v5) 6 v6) 7 v7) 8 v8) 9 v9) 10 v10) 11 v11) 12 v12) 13 v13)
theorem Upd.set14 {fp:List Nat} {w0 w:World} {b:Nat} (h:Upd fp w0 w) (hb:b∈fp∨w0.heap.size≤b) (v0 v1 v2 v3 v4 v5 v6 v7 v8 v9 v10 v11 v12 v13:Value):Upd fp w0 ((((((((((((((w.setCell ⟨b,0,none⟩ v0).setCell ⟨b,1,none⟩ v1).setCell ⟨b,2,none⟩ v2).setCell ⟨b,3,none⟩ v3).setCell ⟨b,4,none⟩ v4).setCell ⟨b,5,none⟩ v5).setCell ⟨b,6,none⟩ v6).setCell ⟨b,7,none⟩ v7).setCell ⟨b,8,none⟩ v8).setCell ⟨b,9,none⟩ v9).setCell ⟨b,10,none⟩ v10).setCell ⟨b,11,none⟩ v11).setCell ⟨b,12,none⟩ v12).setCell ⟨b,13,none⟩ v13):=(Upd.setCell (Upd.setCell (Upd.setCell (Upd.setCell (Upd.setCell (Upd.setCell (Upd.setCell (Upd.setCell (Upd.setCell (Upd.setCell (Upd.setCell (Upd.setCell (Upd.setCell (Upd.setCell h (p:=⟨b,0,none⟩) hb v0) (p:=⟨b,1,none⟩) hb v1) (p:=⟨b,2,none⟩) hb v2) (p:=⟨b,3,none⟩) hb v3) (p:=⟨b,4,none⟩) hb v4) (p:=⟨b,5,none⟩) hb v5) (p:=⟨b,6,none⟩) hb v6) (p:=⟨b,7,none⟩) hb v7) (p:=⟨b,8,none⟩) hb v8) (p:=⟨b,9,none⟩) hb v9) (p:=⟨b,10,none⟩) hb v10) (p:=⟨b,11,none⟩) hb v11) (p:=⟨b,12,none⟩) hb v12) (p:=⟨b,13,none⟩) hb v13)
theorem Blk.far14 {w:World} {d b:Nat} {cs:List Value} {t:TypeId} (h:Blk w d cs t) (hb:d≠b) (v0 v1 v2 v3 v4 v5 v6 v7 v8 v9 v10 v11 v12 v13:Value):Blk ((((((((((((((w.setCell ⟨b,0,none⟩ v0).setCell ⟨b,1,none⟩ v1).setCell ⟨b,2,none⟩ v2).setCell ⟨b,3,none⟩ v3).setCell ⟨b,4,none⟩ v4).setCell ⟨b,5,none⟩ v5).setCell ⟨b,6,none⟩ v6).setCell ⟨b,7,none⟩ v7).setCell ⟨b,8,none⟩ v8).setCell ⟨b,9,none⟩ v9).setCell ⟨b,10,none⟩ v10).setCell ⟨b,11,none⟩ v11).setCell ⟨b,12,none⟩ v12).setCell ⟨b,13,none⟩ v13) d cs t:=(Blk.setFar (Blk.setFar (Blk.setFar (Blk.setFar (Blk.setFar (Blk.setFar (Blk.setFar (Blk.setFar (Blk.setFar (Blk.setFar (Blk.setFar (Blk.setFar (Blk.setFar (Blk.setFar h (a:=⟨b,0,none⟩) v0 hb) (a:=⟨b,1,none⟩) v1 hb) (a:=⟨b,2,none⟩) v2 hb) (a:=⟨b,3,none⟩) v3 hb) (a:=⟨b,4,none⟩) v4 hb) (a:=⟨b,5,none⟩) v5 hb) (a:=⟨b,6,none⟩) v6 hb) (a:=⟨b,7,none⟩) v7 hb) (a:=⟨b,8,none⟩) v8 hb) (a:=⟨b,9,none⟩) v9 hb) (a:=⟨b,10,none⟩) v10 hb) (a:=⟨b,11,none⟩) v11 hb) (a:=⟨b,12,none⟩) v12 hb) (a:=⟨b,13,none⟩) v13 hb)
theorem YT {fn:Func} {p:Tmp} (h:fn.results = #[.cell p 194]) (tmps:Array Value) (w:World) (g:Nat) (c0 c1 c2 c3 c4 c5 c6 c7 c8 c9 c10 c11 c12 c13:Value) (hp:tmps.getD p undef = .pointer (some ⟨g,0,none⟩)) (hB:Blk w g [c0,c1,c2,c3,c4,c5,c6,c7,c8,c9,c10,c11,c12,c13] 194) :
 (results fn tmps).run Tryz.prog w = .ok (.agg #[c0,c1,c2,c3,c4,c5,c6,c7,c8,c9,c10,c11,c12,c13]) w:=by
 have h0:=hB.cell 0 rfl
 have h1:=hB.cell 1 rfl
 have h2:=hB.cell 2 rfl
 have h3:=hB.cell 3 rfl
 have h4:=hB.cell 4 rfl
 have h5:=hB.cell 5 rfl
 have h6:=hB.cell 6 rfl
 have h7:=hB.cell 7 rfl
 have h8:=hB.cell 8 rfl
 have h9:=hB.cell 9 rfl
 have h10:=hB.cell 10 rfl
 have h11:=hB.cell 11 rfl
 have h12:=hB.cell 12 rfl
 have h13:=hB.cell 13 rfl
 have hp2:tmps[p]?.getD undef = .pointer (some ⟨g,0,none⟩):=by rw [← hp]; simp
 simp [results,h,go_sem,hp2,h0,h1,h2,h3,h4,h5,h6,h7,h8,h9,h10,h11,h12,h13]
set_option maxRecDepth 100000 in
set_option maxHeartbeats 4000000 in
theorem YM (b:Nat) (r:RS) (w:World) (hB:Rdr w b r) (hs:r.s.size≤1000000) (hp:r.p≤r.s.size) :
 Calls Tryz.prog 160 #[.pointer (some ⟨b,0,none⟩)] w fun e w'=>e = .returned (.agg (xt r).1.cells.toArray)∧Rdr w' b (xt r).2∧Upd [b] w w':=by
 have o_r:r.Ok:=hp
 have s_r:r.s.size≤1000000:=hs
 obtain ⟨v_a,r_a,h_a⟩ : ∃ v r',r.num 4=(v,r'):=⟨_,_,rfl⟩
 have b_a:v_a<256^4:=by have:=RS.num_lt r 4; rw [h_a] at this; exact this
 have o_a:r_a.Ok:=by have:=RS.num_ok o_r 4; rw [h_a] at this; exact this
 have s_a:r_a.s.size≤1000000:=by have:=RS.num_s r 4; rw [h_a] at this; dsimp only at this; rw [this]; exact s_r
 obtain ⟨r_k1,h_k1⟩ : ∃ r',(r_a.text 4).2=r':=⟨_,rfl⟩
 have o_k1:r_k1.Ok:=by have:=RS.text_ok o_a 4; rw [h_k1] at this; exact this
 have s_k1:r_k1.s.size≤1000000:=by have:=RS.text_s r_a 4; rw [h_k1] at this; rw [this]; exact s_a
 obtain ⟨v_f,r_f,h_f⟩ : ∃ v r',r_k1.num 2=(v,r'):=⟨_,_,rfl⟩
 have b_f:v_f<256^2:=by have:=RS.num_lt r_k1 2; rw [h_f] at this; exact this
 have o_f:r_f.Ok:=by have:=RS.num_ok o_k1 2; rw [h_f] at this; exact this
 have s_f:r_f.s.size≤1000000:=by have:=RS.num_s r_k1 2; rw [h_f] at this; dsimp only at this; rw [this]; exact s_k1
 obtain ⟨v_m,r_m,h_m⟩ : ∃ v r',r_f.num 2=(v,r'):=⟨_,_,rfl⟩
 have b_m:v_m<256^2:=by have:=RS.num_lt r_f 2; rw [h_m] at this; exact this
 have o_m:r_m.Ok:=by have:=RS.num_ok o_f 2; rw [h_m] at this; exact this
 have s_m:r_m.s.size≤1000000:=by have:=RS.num_s r_f 2; rw [h_m] at this; dsimp only at this; rw [this]; exact s_f
 obtain ⟨v_t,r_t,h_t⟩ : ∃ v r',r_m.num 4=(v,r'):=⟨_,_,rfl⟩
 have b_t:v_t<256^4:=by have:=RS.num_lt r_m 4; rw [h_t] at this; exact this
 have o_t:r_t.Ok:=by have:=RS.num_ok o_m 4; rw [h_t] at this; exact this
 have s_t:r_t.s.size≤1000000:=by have:=RS.num_s r_m 4; rw [h_t] at this; dsimp only at this; rw [this]; exact s_m
 obtain ⟨v_u,r_u,h_u⟩ : ∃ v r',r_t.num 4=(v,r'):=⟨_,_,rfl⟩
 have b_u:v_u<256^4:=by have:=RS.num_lt r_t 4; rw [h_u] at this; exact this
 have o_u:r_u.Ok:=by have:=RS.num_ok o_t 4; rw [h_u] at this; exact this
 have s_u:r_u.s.size≤1000000:=by have:=RS.num_s r_t 4; rw [h_u] at this; dsimp only at this; rw [this]; exact s_t
 obtain ⟨v_l,r_l,h_l⟩ : ∃ v r',r_u.num 4=(v,r'):=⟨_,_,rfl⟩
 have b_l:v_l<256^4:=by have:=RS.num_lt r_u 4; rw [h_l] at this; exact this
 have o_l:r_l.Ok:=by have:=RS.num_ok o_u 4; rw [h_l] at this; exact this
 have s_l:r_l.s.size≤1000000:=by have:=RS.num_s r_u 4; rw [h_l] at this; dsimp only at this; rw [this]; exact s_u
 obtain ⟨v_wh,r_wh,h_wh⟩ : ∃ v r',r_l.num 4=(v,r'):=⟨_,_,rfl⟩
 have b_wh:v_wh<256^4:=by have:=RS.num_lt r_l 4; rw [h_wh] at this; exact this
 have o_wh:r_wh.Ok:=by have:=RS.num_ok o_l 4; rw [h_wh] at this; exact this
 have s_wh:r_wh.s.size≤1000000:=by have:=RS.num_s r_l 4; rw [h_wh] at this; dsimp only at this; rw [this]; exact s_l
 obtain ⟨v_n,r_n,h_n⟩ : ∃ v r',r_wh.num 2=(v,r'):=⟨_,_,rfl⟩
 have b_n:v_n<256^2:=by have:=RS.num_lt r_wh 2; rw [h_n] at this; exact this
 have o_n:r_n.Ok:=by have:=RS.num_ok o_wh 2; rw [h_n] at this; exact this
 have s_n:r_n.s.size≤1000000:=by have:=RS.num_s r_wh 2; rw [h_n] at this; dsimp only at this; rw [this]; exact s_wh
 obtain ⟨v_ex,r_ex,h_ex⟩ : ∃ v r',r_n.num 2=(v,r'):=⟨_,_,rfl⟩
 have b_ex:v_ex<256^2:=by have:=RS.num_lt r_n 2; rw [h_ex] at this; exact this
 have o_ex:r_ex.Ok:=by have:=RS.num_ok o_n 2; rw [h_ex] at this; exact this
 have s_ex:r_ex.s.size≤1000000:=by have:=RS.num_s r_n 2; rw [h_ex] at this; dsimp only at this; rw [this]; exact s_n
 obtain ⟨v_re,r_re,h_re⟩ : ∃ v r',r_ex.num 2=(v,r'):=⟨_,_,rfl⟩
 have b_re:v_re<256^2:=by have:=RS.num_lt r_ex 2; rw [h_re] at this; exact this
 have o_re:r_re.Ok:=by have:=RS.num_ok o_ex 2; rw [h_re] at this; exact this
 have s_re:r_re.s.size≤1000000:=by have:=RS.num_s r_ex 2; rw [h_re] at this; dsimp only at this; rw [this]; exact s_ex
 obtain ⟨v_di,r_di,h_di⟩ : ∃ v r',r_re.num 2=(v,r'):=⟨_,_,rfl⟩
 have b_di:v_di<256^2:=by have:=RS.num_lt r_re 2; rw [h_di] at this; exact this
 have o_di:r_di.Ok:=by have:=RS.num_ok o_re 2; rw [h_di] at this; exact this
 have s_di:r_di.s.size≤1000000:=by have:=RS.num_s r_re 2; rw [h_di] at this; dsimp only at this; rw [this]; exact s_re
 obtain ⟨r_k2,h_k2⟩ : ∃ r',(r_di.text 2).2=r':=⟨_,rfl⟩
 have o_k2:r_k2.Ok:=by have:=RS.text_ok o_di 2; rw [h_k2] at this; exact this
 have s_k2:r_k2.s.size≤1000000:=by have:=RS.text_s r_di 2; rw [h_k2] at this; rw [this]; exact s_di
 obtain ⟨v_at,r_at,h_at⟩ : ∃ v r',r_k2.num 4=(v,r'):=⟨_,_,rfl⟩
 have b_at:v_at<256^4:=by have:=RS.num_lt r_k2 4; rw [h_at] at this; exact this
 have o_at:r_at.Ok:=by have:=RS.num_ok o_k2 4; rw [h_at] at this; exact this
 have s_at:r_at.s.size≤1000000:=by have:=RS.num_s r_k2 4; rw [h_at] at this; dsimp only at this; rw [this]; exact s_k2
 obtain ⟨v_ps,r_ps,h_ps⟩ : ∃ v r',r_at.num 4=(v,r'):=⟨_,_,rfl⟩
 have b_ps:v_ps<256^4:=by have:=RS.num_lt r_at 4; rw [h_ps] at this; exact this
 have o_ps:r_ps.Ok:=by have:=RS.num_ok o_at 4; rw [h_ps] at this; exact this
 have s_ps:r_ps.s.size≤1000000:=by have:=RS.num_s r_at 4; rw [h_ps] at this; dsimp only at this; rw [this]; exact s_at
 have HD:Hid (xt r=(⟨v_a,v_f,v_di,v_at,v_m,v_t,v_u,v_l,v_wh,v_ps,(r_ps.text v_n).1⟩,((r_ps.text v_n).2.text (v_ex+v_re)).2)):=Lib.hid (by
  unfold xt
  simp only [h_a,h_k1,h_f,h_m,h_t,h_u,h_l,h_wh,h_n,h_ex,h_re,h_di,h_k2,h_at,h_ps])
 have o_nm:=RS.text_ok o_ps v_n
 have s_nm:(r_ps.text v_n).2.s.size≤1000000:=by rw [RS.text_s]; exact s_ps
 have H_a:=Lib.hid h_a
 have H_k1:=Lib.hid h_k1
 have H_f:=Lib.hid h_f
 have H_m:=Lib.hid h_m
 have H_t:=Lib.hid h_t
 have H_u:=Lib.hid h_u
 have H_l:=Lib.hid h_l
 have H_wh:=Lib.hid h_wh
 have H_n:=Lib.hid h_n
 have H_ex:=Lib.hid h_ex
 have H_re:=Lib.hid h_re
 have H_di:=Lib.hid h_di
 have H_k2:=Lib.hid h_k2
 have H_at:=Lib.hid h_at
 have H_ps:=Lib.hid h_ps
 clear h_a h_k1 h_f h_m h_t h_u h_l h_wh h_n h_ex h_re h_di h_k2 h_at h_ps
 simp only [Nat.reducePow] at b_a b_f b_m b_t b_u b_l b_wh b_n b_ex b_re b_di b_at b_ps
 have hlt:=hB.lt
 have hH0:=(Blk.new w [.string { data := #[] },.int .i64 0,.int .u32 0,.int .i64 0,.int .i64 0,.int .i64 0,.int .i64 0,.int .u32 0,.int .i64 0,.int .u64 0,.int .u64 0,.int .u64 0,.int .i64 0,.string { data := #[] }] 194).alloc (.cells #[.func (.func 88) #[.pointer (some ⟨b,0,none⟩)] #[]] 129)
 have hX0:=Blk.new (w.alloc (.cells #[.string { data := #[] },.int .i64 0,.int .u32 0,.int .i64 0,.int .i64 0,.int .i64 0,.int .i64 0,.int .u32 0,.int .i64 0,.int .u64 0,.int .u64 0,.int .u64 0,.int .i64 0,.string { data := #[] }] 194)) [.func (.func 88) #[.pointer (some ⟨b,0,none⟩)] #[]] 129
 rw [World.size_alloc] at hX0
 have hR0:=Blk.alloc (Blk.alloc hB (.cells #[.string { data := #[] },.int .i64 0,.int .u32 0,.int .i64 0,.int .i64 0,.int .i64 0,.int .i64 0,.int .u32 0,.int .i64 0,.int .u64 0,.int .u64 0,.int .u64 0,.int .i64 0,.string { data := #[] }] 194)) (.cells #[.func (.func 88) #[.pointer (some ⟨b,0,none⟩)] #[]] 129)
 have hU0:=((Upd.refl [b] w).alloc (.cells #[.string { data := #[] },.int .i64 0,.int .u32 0,.int .i64 0,.int .i64 0,.int .i64 0,.int .i64 0,.int .u32 0,.int .i64 0,.int .u64 0,.int .u64 0,.int .u64 0,.int .i64 0,.string { data := #[] }] 194)).alloc (.cells #[.func (.func 88) #[.pointer (some ⟨b,0,none⟩)] #[]] 129)
 have HG:=Lib.hid (Nat.le_refl w.heap.size)
 have hne:w.heap.size≠b:=by omega
 clear hB
 go_enter Tryz.func160,Tryz.ntmps160
 go_wp2_with fail
 generalize hh0:w.heap.size=h0 at *
 have HG1:Hid (w.heap.size≤h0):=Lib.hid (by omega)
 have hlt2:b<h0:=by omega
 clear HG hh0
 refine (zs b 4 v_a r r_a _ H_a.out hR0 s_r o_r (by omega)).mono ?_
 rintro e x1 ⟨rfl,hR1,hv1⟩
 have hH1:=hH0.upd hv1 (by simpa using hne)
 have hX1:=hX0.upd hv1 (by simp; omega)
 have hU1:=hU0.then hv1
 clear hH0 hU0 hv1 hR0 hX0
 have c9:=hH1.cell 9 rfl
 have f9:=hH1.frz 9
 have HR1:=Lib.hid hR1
 have HH1:=Lib.hid hH1
 have HU1:=Lib.hid hU1
 have HX1:=Lib.hid hX1
 clear hR1 hH1 hU1 hX1
 go_wp2_with fail
 clear c9 f9
 have hR2:=(Blk.setFar HR1.out (a:=⟨h0,9,none⟩) (.int .u64 (v_a:Nat)) (by simpa using hne.symm))
 have hH2:=(Blk.set HH1.out 9 (.int .u64 (v_a:Nat)))
 have hU2:=(Upd.setCell HU1.out (p:=⟨h0,9,none⟩) (.inr HG1.out) (.int .u64 (v_a:Nat)))
 have hX2:=(Blk.setFar HX1.out (a:=⟨h0,9,none⟩) (.int .u64 (v_a:Nat)) (by simp))
 clear HR1 HH1 HU1 HX1
 refine (jg b 4 r_a _ hR2 s_a o_a (by omega)).mono ?_
 rintro e x3 ⟨rfl,hR3,hv3⟩
 rw [H_k1.out] at hR3
 have hH3:=hH2.upd hv3 (by simpa using hne)
 have hX3:=hX2.upd hv3 (by simp; omega)
 have hU3:=hU2.then hv3
 clear hH2 hU2 hv3 hR2 hX2
 have HR3:=Lib.hid hR3
 have HH3:=Lib.hid hH3
 have HU3:=Lib.hid hU3
 have HX3:=Lib.hid hX3
 clear hR3 hH3 hU3 hX3
 go_wp2_with fail
 have hR4:=HR3.out
 have hH4:=HH3.out
 have hU4:=HU3.out
 have hX4:=HX3.out
 clear HR3 HH3 HU3 HX3
 refine (zs b 2 v_f r_k1 r_f _ H_f.out hR4 s_k1 o_k1 (by omega)).mono ?_
 rintro e x5 ⟨rfl,hR5,hv5⟩
 have hH5:=hH4.upd hv5 (by simpa using hne)
 have hX5:=hX4.upd hv5 (by simp; omega)
 have hU5:=hU4.then hv5
 clear hH4 hU4 hv5 hR4 hX4
 have c10:=hH5.cell 10 rfl
 have f10:=hH5.frz 10
 have HR5:=Lib.hid hR5
 have HH5:=Lib.hid hH5
 have HU5:=Lib.hid hU5
 have HX5:=Lib.hid hX5
 clear hR5 hH5 hU5 hX5
 go_wp2_with fail
 clear c10 f10
 have hR6:=(Blk.setFar HR5.out (a:=⟨h0,10,none⟩) (.int .u64 (v_f:Nat)) (by simpa using hne.symm))
 have hH6:=(Blk.set HH5.out 10 (.int .u64 (v_f:Nat)))
 have hU6:=(Upd.setCell HU5.out (p:=⟨h0,10,none⟩) (.inr HG1.out) (.int .u64 (v_f:Nat)))
 have hX6:=(Blk.setFar HX5.out (a:=⟨h0,10,none⟩) (.int .u64 (v_f:Nat)) (by simp))
 clear HR5 HH5 HU5 HX5
 refine (qw b (h0+1) 2 v_m r_f r_m _ H_m.out hR6 (hX6.cell 0 rfl) s_f o_f (by omega) (by omega)).mono ?_
 rintro e x7 ⟨rfl,hR7,hv7⟩
 have hH7:=hH6.upd hv7 (by simpa using hne)
 have hX7:=hX6.upd hv7 (by simp; omega)
 have hU7:=hU6.then hv7
 clear hH6 hU6 hv7 hR6 hX6
 have HR7:=Lib.hid hR7
 have HH7:=Lib.hid hH7
 have HU7:=Lib.hid hU7
 have HX7:=Lib.hid hX7
 clear hR7 hH7 hU7 hX7
 go_wp2_with fail
 have hR8:=HR7.out
 have hH8:=HH7.out
 have hU8:=HU7.out
 have hX8:=HX7.out
 clear HR7 HH7 HU7 HX7
 refine (zs b 4 v_t r_m r_t _ H_t.out hR8 s_m o_m (by omega)).mono ?_
 rintro e x9 ⟨rfl,hR9,hv9⟩
 have hH9:=hH8.upd hv9 (by simpa using hne)
 have hX9:=hX8.upd hv9 (by simp; omega)
 have hU9:=hU8.then hv9
 clear hH8 hU8 hv9 hR8 hX8
 have HR9:=Lib.hid hR9
 have HH9:=Lib.hid hH9
 have HU9:=Lib.hid hU9
 have HX9:=Lib.hid hX9
 clear hR9 hH9 hU9 hX9
 go_wp2_with fail
 have hR10:=HR9.out
 have hH10:=HH9.out
 have hU10:=HU9.out
 have hX10:=HX9.out
 clear HR9 HH9 HU9 HX9
 refine (zs b 4 v_u r_t r_u _ H_u.out hR10 s_t o_t (by omega)).mono ?_
 rintro e x11 ⟨rfl,hR11,hv11⟩
 have hH11:=hH10.upd hv11 (by simpa using hne)
 have hX11:=hX10.upd hv11 (by simp; omega)
 have hU11:=hU10.then hv11
 clear hH10 hU10 hv11 hR10 hX10
 have c1:=hH11.cell 1 rfl
 have f1:=hH11.frz 1
 have c7:=hH11.cell 7 rfl
 have f7:=hH11.frz 7
 have c2:=hH11.cell 2 rfl
 have f2:=hH11.frz 2
 have HR11:=Lib.hid hR11
 have HH11:=Lib.hid hH11
 have HU11:=Lib.hid hU11
 have HX11:=Lib.hid hX11
 clear hR11 hH11 hU11 hX11
 go_wp2_with fail
 clear c1 f1 c7 f7 c2 f2
 have hR12:=(Blk.setFar (Blk.setFar (Blk.setFar HR11.out (a:=⟨h0,1,none⟩) (.int .i64 (v_m:Nat)) (by simpa using hne.symm)) (a:=⟨h0,7,none⟩) (.int .u32 (v_t:Nat)) (by simpa using hne.symm)) (a:=⟨h0,2,none⟩) (.int .u32 (v_u:Nat)) (by simpa using hne.symm))
 have hH12:=(Blk.set (Blk.set (Blk.set HH11.out 1 (.int .i64 (v_m:Nat))) 7 (.int .u32 (v_t:Nat))) 2 (.int .u32 (v_u:Nat)))
 have hU12:=(Upd.setCell (Upd.setCell (Upd.setCell HU11.out (p:=⟨h0,1,none⟩) (.inr HG1.out) (.int .i64 (v_m:Nat))) (p:=⟨h0,7,none⟩) (.inr HG1.out) (.int .u32 (v_t:Nat))) (p:=⟨h0,2,none⟩) (.inr HG1.out) (.int .u32 (v_u:Nat)))
 have hX12:=(Blk.setFar (Blk.setFar (Blk.setFar HX11.out (a:=⟨h0,1,none⟩) (.int .i64 (v_m:Nat)) (by simp)) (a:=⟨h0,7,none⟩) (.int .u32 (v_t:Nat)) (by simp)) (a:=⟨h0,2,none⟩) (.int .u32 (v_u:Nat)) (by simp))
 clear HR11 HH11 HU11 HX11
 refine (qw b (h0+1) 4 v_l r_u r_l _ H_l.out hR12 (hX12.cell 0 rfl) s_u o_u (by omega) (by omega)).mono ?_
 rintro e x13 ⟨rfl,hR13,hv13⟩
 have hH13:=hH12.upd hv13 (by simpa using hne)
 have hX13:=hX12.upd hv13 (by simp; omega)
 have hU13:=hU12.then hv13
 clear hH12 hU12 hv13 hR12 hX12
 have HR13:=Lib.hid hR13
 have HH13:=Lib.hid hH13
 have HU13:=Lib.hid hU13
 have HX13:=Lib.hid hX13
 clear hR13 hH13 hU13 hX13
 go_wp2_with fail
 have hR14:=HR13.out
 have hH14:=HH13.out
 have hU14:=HU13.out
 have hX14:=HX13.out
 clear HR13 HH13 HU13 HX13
 refine (qw b (h0+1) 4 v_wh r_l r_wh _ H_wh.out hR14 (hX14.cell 0 rfl) s_l o_l (by omega) (by omega)).mono ?_
 rintro e x15 ⟨rfl,hR15,hv15⟩
 have hH15:=hH14.upd hv15 (by simpa using hne)
 have hX15:=hX14.upd hv15 (by simp; omega)
 have hU15:=hU14.then hv15
 clear hH14 hU14 hv15 hR14 hX14
 have c3:=hH15.cell 3 rfl
 have f3:=hH15.frz 3
 have c4:=hH15.cell 4 rfl
 have f4:=hH15.frz 4
 have HR15:=Lib.hid hR15
 have HH15:=Lib.hid hH15
 have HU15:=Lib.hid hU15
 have HX15:=Lib.hid hX15
 clear hR15 hH15 hU15 hX15
 go_wp2_with fail
 clear c3 f3 c4 f4
 have hR16:=(Blk.setFar (Blk.setFar HR15.out (a:=⟨h0,3,none⟩) (.int .i64 (v_l:Nat)) (by simpa using hne.symm)) (a:=⟨h0,4,none⟩) (.int .i64 (v_wh:Nat)) (by simpa using hne.symm))
 have hH16:=(Blk.set (Blk.set HH15.out 3 (.int .i64 (v_l:Nat))) 4 (.int .i64 (v_wh:Nat)))
 have hU16:=(Upd.setCell (Upd.setCell HU15.out (p:=⟨h0,3,none⟩) (.inr HG1.out) (.int .i64 (v_l:Nat))) (p:=⟨h0,4,none⟩) (.inr HG1.out) (.int .i64 (v_wh:Nat)))
 have hX16:=(Blk.setFar (Blk.setFar HX15.out (a:=⟨h0,3,none⟩) (.int .i64 (v_l:Nat)) (by simp)) (a:=⟨h0,4,none⟩) (.int .i64 (v_wh:Nat)) (by simp))
 clear HR15 HH15 HU15 HX15
 refine (qw b (h0+1) 2 v_n r_wh r_n _ H_n.out hR16 (hX16.cell 0 rfl) s_wh o_wh (by omega) (by omega)).mono ?_
 rintro e x17 ⟨rfl,hR17,hv17⟩
 have hH17:=hH16.upd hv17 (by simpa using hne)
 have hX17:=hX16.upd hv17 (by simp; omega)
 have hU17:=hU16.then hv17
 clear hH16 hU16 hv17 hR16 hX16
 have HR17:=Lib.hid hR17
 have HH17:=Lib.hid hH17
 have HU17:=Lib.hid hU17
 have HX17:=Lib.hid hX17
 clear hR17 hH17 hU17 hX17
 go_wp2_with fail
 have hR18:=HR17.out
 have hH18:=HH17.out
 have hU18:=HU17.out
 have hX18:=HX17.out
 clear HR17 HH17 HU17 HX17
 refine (qw b (h0+1) 2 v_ex r_n r_ex _ H_ex.out hR18 (hX18.cell 0 rfl) s_n o_n (by omega) (by omega)).mono ?_
 rintro e x19 ⟨rfl,hR19,hv19⟩
 have hH19:=hH18.upd hv19 (by simpa using hne)
 have hX19:=hX18.upd hv19 (by simp; omega)
 have hU19:=hU18.then hv19
 clear hH18 hU18 hv19 hR18 hX18
 have HR19:=Lib.hid hR19
 have HH19:=Lib.hid hH19
 have HU19:=Lib.hid hU19
 have HX19:=Lib.hid hX19
 clear hR19 hH19 hU19 hX19
 go_wp2_with fail
 have hR20:=HR19.out
 have hH20:=HH19.out
 have hU20:=HU19.out
 have hX20:=HX19.out
 clear HR19 HH19 HU19 HX19
 refine (qw b (h0+1) 2 v_re r_ex r_re _ H_re.out hR20 (hX20.cell 0 rfl) s_ex o_ex (by omega) (by omega)).mono ?_
 rintro e x21 ⟨rfl,hR21,hv21⟩
 have hH21:=hH20.upd hv21 (by simpa using hne)
 have hX21:=hX20.upd hv21 (by simp; omega)
 have hU21:=hU20.then hv21
 clear hH20 hU20 hv21 hR20 hX20
 have HR21:=Lib.hid hR21
 have HH21:=Lib.hid hH21
 have HU21:=Lib.hid hU21
 have HX21:=Lib.hid hX21
 clear hR21 hH21 hU21 hX21
 go_wp2_with fail
 have hR22:=HR21.out
 have hH22:=HH21.out
 have hU22:=HU21.out
 have hX22:=HX21.out
 clear HR21 HH21 HU21 HX21
 refine (zs b 2 v_di r_re r_di _ H_di.out hR22 s_re o_re (by omega)).mono ?_
 rintro e x23 ⟨rfl,hR23,hv23⟩
 have hH23:=hH22.upd hv23 (by simpa using hne)
 have hX23:=hX22.upd hv23 (by simp; omega)
 have hU23:=hU22.then hv23
 clear hH22 hU22 hv23 hR22 hX22
 have c11:=hH23.cell 11 rfl
 have f11:=hH23.frz 11
 have HR23:=Lib.hid hR23
 have HH23:=Lib.hid hH23
 have HU23:=Lib.hid hU23
 have HX23:=Lib.hid hX23
 clear hR23 hH23 hU23 hX23
 go_wp2_with fail
 clear c11 f11
 have hR24:=(Blk.setFar HR23.out (a:=⟨h0,11,none⟩) (.int .u64 (v_di:Nat)) (by simpa using hne.symm))
 have hH24:=(Blk.set HH23.out 11 (.int .u64 (v_di:Nat)))
 have hU24:=(Upd.setCell HU23.out (p:=⟨h0,11,none⟩) (.inr HG1.out) (.int .u64 (v_di:Nat)))
 have hX24:=(Blk.setFar HX23.out (a:=⟨h0,11,none⟩) (.int .u64 (v_di:Nat)) (by simp))
 clear HR23 HH23 HU23 HX23
 refine (jg b 2 r_di _ hR24 s_di o_di (by omega)).mono ?_
 rintro e x25 ⟨rfl,hR25,hv25⟩
 rw [H_k2.out] at hR25
 have hH25:=hH24.upd hv25 (by simpa using hne)
 have hX25:=hX24.upd hv25 (by simp; omega)
 have hU25:=hU24.then hv25
 clear hH24 hU24 hv25 hR24 hX24
 have HR25:=Lib.hid hR25
 have HH25:=Lib.hid hH25
 have HU25:=Lib.hid hU25
 have HX25:=Lib.hid hX25
 clear hR25 hH25 hU25 hX25
 go_wp2_with fail
 have hR26:=HR25.out
 have hH26:=HH25.out
 have hU26:=HU25.out
 have hX26:=HX25.out
 clear HR25 HH25 HU25 HX25
 refine (qw b (h0+1) 4 v_at r_k2 r_at _ H_at.out hR26 (hX26.cell 0 rfl) s_k2 o_k2 (by omega) (by omega)).mono ?_
 rintro e x27 ⟨rfl,hR27,hv27⟩
 have hH27:=hH26.upd hv27 (by simpa using hne)
 have hX27:=hX26.upd hv27 (by simp; omega)
 have hU27:=hU26.then hv27
 clear hH26 hU26 hv27 hR26 hX26
 have HR27:=Lib.hid hR27
 have HH27:=Lib.hid hH27
 have HU27:=Lib.hid hU27
 have HX27:=Lib.hid hX27
 clear hR27 hH27 hU27 hX27
 go_wp2_with fail
 have hR28:=HR27.out
 have hH28:=HH27.out
 have hU28:=HU27.out
 have hX28:=HX27.out
 clear HR27 HH27 HU27 HX27
 refine (qw b (h0+1) 4 v_ps r_at r_ps _ H_ps.out hR28 (hX28.cell 0 rfl) s_at o_at (by omega) (by omega)).mono ?_
 rintro e x29 ⟨rfl,hR29,hv29⟩
 have hH29:=hH28.upd hv29 (by simpa using hne)
 have hX29:=hX28.upd hv29 (by simp; omega)
 have hU29:=hU28.then hv29
 clear hH28 hU28 hv29 hR28 hX28
 have c12:=hH29.cell 12 rfl
 have f12:=hH29.frz 12
 have c8:=hH29.cell 8 rfl
 have f8:=hH29.frz 8
 have HR29:=Lib.hid hR29
 have HH29:=Lib.hid hH29
 have HU29:=Lib.hid hU29
 have HX29:=Lib.hid hX29
 clear hR29 hH29 hU29 hX29
 go_wp2_with fail
 clear c12 f12 c8 f8
 have hR30:=(Blk.setFar (Blk.setFar HR29.out (a:=⟨h0,12,none⟩) (.int .i64 (v_at:Nat)) (by simpa using hne.symm)) (a:=⟨h0,8,none⟩) (.int .i64 (v_ps:Nat)) (by simpa using hne.symm))
 have hH30:=(Blk.set (Blk.set HH29.out 12 (.int .i64 (v_at:Nat))) 8 (.int .i64 (v_ps:Nat)))
 have hU30:=(Upd.setCell (Upd.setCell HU29.out (p:=⟨h0,12,none⟩) (.inr HG1.out) (.int .i64 (v_at:Nat))) (p:=⟨h0,8,none⟩) (.inr HG1.out) (.int .i64 (v_ps:Nat)))
 have hX30:=(Blk.setFar (Blk.setFar HX29.out (a:=⟨h0,12,none⟩) (.int .i64 (v_at:Nat)) (by simp)) (a:=⟨h0,8,none⟩) (.int .i64 (v_ps:Nat)) (by simp))
 clear HR29 HH29 HU29 HX29
 refine (ka b v_n r_ps _ hR30 s_ps o_ps (by omega)).mono ?_
 rintro e x31 ⟨rfl,hR31,hv31⟩
 have hH31:=hH30.upd hv31 (by simpa using hne)
 have hX31:=hX30.upd hv31 (by simp; omega)
 have hU31:=hU30.then hv31
 clear hH30 hU30 hv31 hR30 hX30
 have c13:=hH31.cell 13 rfl
 have f13:=hH31.frz 13
 have HR31:=Lib.hid hR31
 have HH31:=Lib.hid hH31
 have HU31:=Lib.hid hU31
 have HX31:=Lib.hid hX31
 clear hR31 hH31 hU31 hX31
 go_wp2_with fail
 clear c13 f13
 have hR32:=(Blk.setFar HR31.out (a:=⟨h0,13,none⟩) (.string (zf (r_ps.text v_n).1)) (by simpa using hne.symm))
 have hH32:=(Blk.set HH31.out 13 (.string (zf (r_ps.text v_n).1)))
 have hU32:=(Upd.setCell HU31.out (p:=⟨h0,13,none⟩) (.inr HG1.out) (.string (zf (r_ps.text v_n).1)))
 have hX32:=(Blk.setFar HX31.out (a:=⟨h0,13,none⟩) (.string (zf (r_ps.text v_n).1)) (by simp))
 clear HR31 HH31 HU31 HX31
 refine (jg b (v_ex+v_re) _ _ hR32 s_nm o_nm (by omega)).mono ?_
 rintro e x33 ⟨rfl,hR33,hv33⟩
 have hH33:=hH32.upd hv33 (by simpa using hne)
 have hX33:=hX32.upd hv33 (by simp; omega)
 have hU33:=hU32.then hv33
 clear hH32 hU32 hv33 hR32 hX32
 have c0:=hH33.cell 0 rfl
 have f0:=hH33.frz 0
 have c1:=hH33.cell 1 rfl
 have f1:=hH33.frz 1
 have c2:=hH33.cell 2 rfl
 have f2:=hH33.frz 2
 have c3:=hH33.cell 3 rfl
 have f3:=hH33.frz 3
 have c4:=hH33.cell 4 rfl
 have f4:=hH33.frz 4
 have c5:=hH33.cell 5 rfl
 have f5:=hH33.frz 5
 have c6:=hH33.cell 6 rfl
 have f6:=hH33.frz 6
 have c7:=hH33.cell 7 rfl
 have f7:=hH33.frz 7
 have c8:=hH33.cell 8 rfl
 have f8:=hH33.frz 8
 have c9:=hH33.cell 9 rfl
 have f9:=hH33.frz 9
 have c10:=hH33.cell 10 rfl
 have f10:=hH33.frz 10
 have c11:=hH33.cell 11 rfl
 have f11:=hH33.frz 11
 have c12:=hH33.cell 12 rfl
 have f12:=hH33.frz 12
 have c13:=hH33.cell 13 rfl
 have f13:=hH33.frz 13
 have HR33:=Lib.hid hR33
 have HH33:=Lib.hid hH33
 have HU33:=Lib.hid hU33
 have HX33:=Lib.hid hX33
 clear hR33 hH33 hU33 hX33
 go_wp2
 (try simp only [Exit.inBlock,Exit.then]); refine bodyPost_ret (YT rfl _ _ h0 _ _ _ _ _ _ _ _ _ _ _ _ _ _ rfl (Blk.set14 HH33.out _ _ _ _ _ _ _ _ _ _ _ _ _ _)) rfl ⟨?_,?_,Upd.set14 HU33.out (.inr HG1.out) _ _ _ _ _ _ _ _ _ _ _ _ _ _⟩
 · rw [HD.out]; rfl
 · rw [HD.out]; exact Blk.far14 HR33.out hne.symm _ _ _ _ _ _ _ _ _ _ _ _ _ _
end Go.Proofs.YtigjingielnaoaaGreatDoor
