/- Package field: Reader: walks. -/
import Derived.Test.YtigjingielnaoaaGreatDoorQAH
import Derived.Test.YtigjingielnaoaaGreatDoorQAG
import Derived.Test.YtigjingielnaoaaGreatDoorQAI
import Derived.Test.YtigjingielnaoaaGreatDoorQAF
set_option linter.unusedVariables false
set_option linter.unusedSimpArgs false
set_option linter.unusedSectionVars false
namespace Go.Proofs.YtigjingielnaoaaGreatDoor
open Go.RowKit
abbrev Rdr (w:World) (b:Nat) (r:RS):Prop:=Blk w b r.cells 170
set_option maxRecDepth 100000 in
theorem xC (b:Nat) (r:RS) (w:World) (hB:Rdr w b r):Calls Tryz.prog 157 #[.pointer (some ⟨b,0,none⟩)] w fun e w'=>e = .returned (.bool (!r.bad))∧w=w':=by
 obtain ⟨s,p,bad⟩:=r
 unfold Rdr RS.cells at hB
 dsimp only at *
 have c2:=hB.cell 2 rfl
 go_enter Tryz.func157,Tryz.ntmps157
 go_wp2
 go_ret
 exact ⟨rfl,rfl⟩
theorem kD (b:Nat) (r:RS) (w:World) (hB:Rdr w b r):Calls Tryz.prog 162 #[.pointer (some ⟨b,0,none⟩)] w fun e w'=>e = .returned (.int .i64 (r.p:Nat))∧w=w':=by
 obtain ⟨s,p,bad⟩:=r
 unfold Rdr RS.cells at hB
 dsimp only at *
 have c2:=hB.cell 1 rfl
 go_enter Tryz.func162,Tryz.ntmps162
 go_wp2
 go_ret
 exact ⟨rfl,rfl⟩
theorem Zp (b:Nat) (r:RS) (w:World) (hB:Rdr w b r) (hs:r.s.size≤1000000) (hp:r.p≤r.s.size):Calls Tryz.prog 159 #[.pointer (some ⟨b,0,none⟩)] w fun e w'=>e = .returned (.int .i64 ((r.s.size:Int)-(r.p:Nat)))∧Upd [] w w'∧Rdr w' b r:=by
 obtain ⟨s,p,bad⟩:=r
 unfold Rdr RS.cells at hB ⊢
 dsimp only at *
 have cA:=hB.all
 have HB:=Lib.hid hB
 clear hB
 go_enter Tryz.func159,Tryz.ntmps159
 go_wp2
 go_quiet (fail)
 go_wp2
 go_ret
 exact ⟨rfl,(Upd.refl _ _).drewN _,HB.out⟩
theorem xE (s:ByteArray) (w:World):Calls Tryz.prog 86 #[.string s] w fun e w'=>e = .returned (.pointer (some ⟨w.heap.size,0,none⟩))∧Rdr w' w.heap.size ⟨s,0,false⟩∧Upd [] w w':=by
 go_enter Tryz.func86,Tryz.ntmps86
 go_wp2
 go_ret
 exact ⟨rfl,Blk.new w [.string s,.int .i64 0,.bool false] 170,(Upd.refl _ _).alloc _⟩
set_option maxRecDepth 100000 in
theorem ka (b n:Nat) (r:RS) (w:World) (hB:Rdr w b r) (hs:r.s.size≤1000000) (hp:r.p≤r.s.size) (hn:n≤10000000) :
 Calls Tryz.prog 129 #[.pointer (some ⟨b,0,none⟩),.int .i64 (n:Nat)] w fun e w'=>e = .returned (.string (zf (r.text n).1))∧Rdr w' b (r.text n).2∧Upd [b] w w':=by
 have HF:=Lib.hid (fun w hB=>xC b r w hB)
 have HL:=Lib.hid (fun w hB=>Zp b r w hB hs hp)
 have HB:=Lib.hid hB
 obtain ⟨s,p,bad⟩:=r
 dsimp only at *
 cases bad with
 | true =>
   have HT:=Lib.hid (RS.text_bad (r:=⟨s,p,true⟩) rfl n)
   clear hB
   go_enter Tryz.func129,Tryz.ntmps129
   go_wp2_with fail
   refine (HF.out _ HB.out).mono ?_
   rintro e w1 ⟨rfl,rfl⟩
   go_wp2
   go_ret
   exact ⟨by rw [HT.out]; rfl,by rw [HT.out]; exact HB.out,Upd.refl _ _⟩
 | false =>
   by_cases hc:s.size-p<n
   · have HT:=Lib.hid (RS.text_short (s:=s) (p:=p) n hc)
     have hcz:(s.size:Int)-(p:Int)<(n:Int):=by omega
     have hn0 : ¬ (n:Int)<0:=by omega
     clear hB
     go_enter Tryz.func129,Tryz.ntmps129
     go_wp2_with fail
     refine (HF.out _ HB.out).mono ?_
     rintro e w1 ⟨rfl,rfl⟩
     go_wp2_with fail
     refine (HL.out _ HB.out).mono ?_
     rintro e w2 ⟨rfl,hU,hB2⟩
     have c2:=Blk.cell hB2 2 rfl
     have f2:=Blk.frz hB2 2
     have HB2:=Lib.hid hB2
     have HU:=Lib.hid hU
     clear hB2 hU
     go_wp2
     go_ret
     refine ⟨by rw [HT.out]; rfl,?_,?_⟩
     · rw [HT.out]; exact Blk.set HB2.out 2 _
     · exact (HU.out.mono (by simp)).setCell (.inl (by simp)) _
   · have hc':n≤s.size-p:=by omega
     have HT:=Lib.hid (RS.text_fine (s:=s) (p:=p) n hc')
     have HST:Hid (zf (((ze s).drop p).take n)=s.extract p (p+n)):=Lib.hid (by
      rw [← zw (s.extract p (p+n)),zr,Nat.add_sub_cancel_left])
     have hcz : ¬ (s.size:Int)-(p:Int)<(n:Int):=by omega
     have hn0 : ¬ (n:Int)<0:=by omega
     clear hB
     go_enter Tryz.func129,Tryz.ntmps129
     go_wp2_with fail
     refine (HF.out _ HB.out).mono ?_
     rintro e w1 ⟨rfl,rfl⟩
     go_wp2_with fail
     refine (HL.out _ HB.out).mono ?_
     rintro e w2 ⟨rfl,hU,hB2⟩
     have c1:=Blk.cell hB2 1 rfl
     have f1:=Blk.frz hB2 1
     have HB2:=Lib.hid hB2
     have HU:=Lib.hid hU
     clear hB2 hU
     go_wp2
     have hB3:Blk (w2.setCell ⟨b,1,none⟩ (.int .i64 ((p:Int)+(n:Int)))) b [.string s,.int .i64 ((p+n:Nat):Int),.bool false] 170:=Blk.set HB2.out 1 _
     have hU3:Upd [b] w (w2.setCell ⟨b,1,none⟩ (.int .i64 ((p:Int)+(n:Int)))):=(HU.out.mono (by simp)).setCell (.inl (by simp)) _
     generalize w2.setCell ⟨b,1,none⟩ (.int .i64 ((p:Int)+(n:Int)))=w3 at *
     have dA:=hB3.all
     have HB3:=Lib.hid hB3
     have HU3:=Lib.hid hU3
     clear hB3 hU3
     go_quiet (fail)
     go_wp2
     go_ret
     refine ⟨?_,?_,HU3.out.drewN _⟩
     · rw [HT.out]
       show _=Ending.returned (.string (zf (((ze s).drop p).take n)))
       rw [HST.out]; rfl
     · rw [HT.out]; exact HB3.out
end Go.Proofs.YtigjingielnaoaaGreatDoor
namespace Go.Proofs.YtigjingielnaoaaGreatDoor
open Go.RowKit
theorem zaM (r:RS) (k:Nat) : ∃ ok,ZR (zf (r.text k).1) k = .tuple #[.int .u64 ((r.num k).1:Nat),.bool ok]:=by
 have hb:ze (zf (r.text k).1)=(r.text k).1:=zz _ (r.text_lt k)
 unfold ZR RS.num
 rw [zh,hb]
 by_cases h:k≤(r.text k).1.length
 · rw [if_pos h,List.take_of_length_le (r.text_len k)]; exact ⟨_,rfl⟩
 · rw [if_neg h]
   have h0:(r.text k).1=[]:=by
    unfold RS.text at h ⊢
    repeat' split at h
    · rename_i h1; rw [if_pos h1]
    · rename_i h1 h2; rw [if_neg h1,if_pos h2]
    · rename_i h1 h2
      exfalso
      dsimp only at h
      rw [List.length_take,List.length_drop] at h
      unfold RS.l at h
      rw [zg] at h
      omega
   rw [h0]
   exact ⟨_,rfl⟩
set_option maxRecDepth 100000 in
theorem zs (b k v:Nat) (r r':RS) (w:World) (h:r.num k=(v,r')) (hB:Rdr w b r) (hs:r.s.size≤1000000) (hp:r.p≤r.s.size) (hk:k≤8) :
 Calls Tryz.prog 88 #[.pointer (some ⟨b,0,none⟩),.int .i64 (k:Nat)] w fun e w'=>e = .returned (.int .u64 (v:Nat))∧Rdr w' b r'∧Upd [b] w w':=by
 have HT:=Lib.hid (ka b k r w hB hs hp (by omega))
 have hz:(zf (r.text k).1).size≤1000000:=by rw [zh]; have:=r.text_len k; omega
 have HG:=Lib.hid (fun w=>zdU (zf (r.text k).1) k w hz hk)
 obtain ⟨ok,hok⟩:=zaM r k
 rw [hok,h] at HG
 have h2:(r.text k).2=r':=by have:=congrArg Prod.snd h; exact this
 rw [h2] at HT
 have hk8:(k:Int)≤8:=by omega
 have hk0:(0:Int)≤(k:Int):=by omega
 have HMX:max (k:Int) 0=(k:Int):=by omega
 clear hok h h2
 generalize zf (r.text k).1=S at *
 go_enter Tryz.func88,Tryz.ntmps88
 go_wp2_with fail
 refine HT.out.mono ?_
 rintro e w1 ⟨rfl,hB1,hU1⟩
 have HB1:=Lib.hid hB1
 clear hB1
 go_wp2_with fail
 try rw [HMX]
 refine (HG.out _).mono ?_
 rintro e w2 ⟨rfl,hU2⟩
 go_wp2
 go_ret
 exact ⟨rfl,HB1.out.upd hU2 (by simp),hU1.then (hU2.mono (by simp))⟩
theorem jg (b n:Nat) (r:RS) (w:World) (hB:Rdr w b r) (hs:r.s.size≤1000000) (hp:r.p≤r.s.size) (hn:n≤10000000) :
 Calls Tryz.prog 87 #[.pointer (some ⟨b,0,none⟩),.int .i64 (n:Nat)] w fun e w'=>e = .returned (.tuple #[])∧Rdr w' b (r.text n).2∧Upd [b] w w':=by
 have HT:=Lib.hid (ka b n r w hB hs hp hn)
 go_enter Tryz.func87,Tryz.ntmps87
 go_wp2_with fail
 refine HT.out.mono ?_
 rintro e w1 ⟨rfl,hF⟩
 go_wp2
 go_end0
 exact ⟨rfl,hF⟩
def HdD.cells (h:HdD):List Value:=[.string .empty,.int .i64 (h.m:Nat),.int .u32 (h.sum:Nat),.int .i64 (h.l:Nat),.int .i64 (h.wh:Nat),.int .i64 0,.int .i64 0,.int .u32 (h.t:Nat),.int .i64 0,.int .u64 (h.beg:Nat),.int .u64 (h.flags:Nat),.string (zf h.name)]
theorem Blk.set12 {w:World} {b:Nat} {a0 a1 a2 a3 a4 a5 a6 a7 a8 a9 a10 a11:Value} {t:TypeId} (h:Blk w b [a0,a1,a2,a3,a4,a5,a6,a7,a8,a9,a10,a11] t) (v0 v1 v2 v3 v4 v5 v6 v7 v8 v9 v10 v11:Value):Blk ((((((((((((w.setCell ⟨b,0,none⟩ v0).setCell ⟨b,1,none⟩ v1).setCell ⟨b,2,none⟩ v2).setCell ⟨b,3,none⟩ v3).setCell ⟨b,4,none⟩ v4).setCell ⟨b,5,none⟩ v5).setCell ⟨b,6,none⟩ v6).setCell ⟨b,7,none⟩ v7).setCell ⟨b,8,none⟩ v8).setCell ⟨b,9,none⟩ v9).setCell ⟨b,10,none⟩ v10).setCell ⟨b,11,none⟩ v11) b [v0,v1,v2,v3,v4,v5,v6,v7,v8,v9,v10,v11] t:=(Blk.set (Blk.set (Blk.set (Blk.set (Blk.set (Blk.set (Blk.set (Blk.set (Blk.set (Blk.set (Blk.set (Blk.set h 0 v0) 1 v1) 2 v2) 3 v3) 4 v4) 5 v5) 6 v6) 7 v7) 8 v8) 9 v9) 10 v10) 11 v11)
theorem Upd.set12 {fp:List Nat} {w0 w:World} {b:Nat} (h:Upd fp w0 w) (hb:b∈fp∨w0.heap.size≤b) (v0 v1 v2 v3 v4 v5 v6 v7 v8 v9 v10 v11:Value):Upd fp w0 ((((((((((((w.setCell ⟨b,0,none⟩ v0).setCell ⟨b,1,none⟩ v1).setCell ⟨b,2,none⟩ v2).setCell ⟨b,3,none⟩ v3).setCell ⟨b,4,none⟩ v4).setCell ⟨b,5,none⟩ v5).setCell ⟨b,6,none⟩ v6).setCell ⟨b,7,none⟩ v7).setCell ⟨b,8,none⟩ v8).setCell ⟨b,9,none⟩ v9).setCell ⟨b,10,none⟩ v10).setCell ⟨b,11,none⟩ v11):=(Upd.setCell (Upd.setCell (Upd.setCell (Upd.setCell (Upd.setCell (Upd.setCell (Upd.setCell (Upd.setCell (Upd.setCell (Upd.setCell (Upd.setCell (Upd.setCell h (p:=⟨b,0,none⟩) hb v0) (p:=⟨b,1,none⟩) hb v1) (p:=⟨b,2,none⟩) hb v2) (p:=⟨b,3,none⟩) hb v3) (p:=⟨b,4,none⟩) hb v4) (p:=⟨b,5,none⟩) hb v5) (p:=⟨b,6,none⟩) hb v6) (p:=⟨b,7,none⟩) hb v7) (p:=⟨b,8,none⟩) hb v8) (p:=⟨b,9,none⟩) hb v9) (p:=⟨b,10,none⟩) hb v10) (p:=⟨b,11,none⟩) hb v11)
theorem Blk.far12 {w:World} {d b:Nat} {cs:List Value} {t:TypeId} (h:Blk w d cs t) (hb:d≠b) (v0 v1 v2 v3 v4 v5 v6 v7 v8 v9 v10 v11:Value):Blk ((((((((((((w.setCell ⟨b,0,none⟩ v0).setCell ⟨b,1,none⟩ v1).setCell ⟨b,2,none⟩ v2).setCell ⟨b,3,none⟩ v3).setCell ⟨b,4,none⟩ v4).setCell ⟨b,5,none⟩ v5).setCell ⟨b,6,none⟩ v6).setCell ⟨b,7,none⟩ v7).setCell ⟨b,8,none⟩ v8).setCell ⟨b,9,none⟩ v9).setCell ⟨b,10,none⟩ v10).setCell ⟨b,11,none⟩ v11) d cs t:=(Blk.setFar (Blk.setFar (Blk.setFar (Blk.setFar (Blk.setFar (Blk.setFar (Blk.setFar (Blk.setFar (Blk.setFar (Blk.setFar (Blk.setFar (Blk.setFar h (a:=⟨b,0,none⟩) v0 hb) (a:=⟨b,1,none⟩) v1 hb) (a:=⟨b,2,none⟩) v2 hb) (a:=⟨b,3,none⟩) v3 hb) (a:=⟨b,4,none⟩) v4 hb) (a:=⟨b,5,none⟩) v5 hb) (a:=⟨b,6,none⟩) v6 hb) (a:=⟨b,7,none⟩) v7 hb) (a:=⟨b,8,none⟩) v8 hb) (a:=⟨b,9,none⟩) v9 hb) (a:=⟨b,10,none⟩) v10 hb) (a:=⟨b,11,none⟩) v11 hb)
theorem KZ {fn:Func} {p:Tmp} (h:fn.results = #[.cell p 228]) (tmps:Array Value) (w:World) (g:Nat) (c0 c1 c2 c3 c4 c5 c6 c7 c8 c9 c10 c11:Value) (hp:tmps.getD p undef = .pointer (some ⟨g,0,none⟩)) (hB:Blk w g [c0,c1,c2,c3,c4,c5,c6,c7,c8,c9,c10,c11] 228) :
 (results fn tmps).run Tryz.prog w = .ok (.agg #[c0,c1,c2,c3,c4,c5,c6,c7,c8,c9,c10,c11]) w:=by
 have h0:=hB.cell 0 rfl
 have h1:=hB.cell 1 rfl
 have h2:=hB.cell 2 rfl
 have h3:=hB.cell 3 rfl
 have h4:=hB.cell 4 rfl
 have h5:=hB.cell 5 rfl
 have h6:=hB.cell 6 rfl
 have h7:=hB.cell 7 rfl
 have h8:=hB.cell 8 rfl
 have h9:=hB.cell 9 rfl
 have h10:=hB.cell 10 rfl
 have h11:=hB.cell 11 rfl
 have hp2:tmps[p]?.getD undef = .pointer (some ⟨g,0,none⟩):=by rw [← hp]; simp
 simp [results,h,go_sem,hp2,h0,h1,h2,h3,h4,h5,h6,h7,h8,h9,h10,h11]
set_option maxRecDepth 100000 in
set_option maxHeartbeats 4000000 in
theorem Wm (b:Nat) (r:RS) (w:World) (hB:Rdr w b r) (hs:r.s.size≤1000000) (hp:r.p≤r.s.size) :
 Calls Tryz.prog 198 #[.pointer (some ⟨b,0,none⟩)] w fun e w'=>e = .returned (.agg (hdP r).1.cells.toArray)∧Rdr w' b (hdP r).2∧Upd [b] w w':=by
 have o_r:r.Ok:=hp
 have s_r:r.s.size≤1000000:=hs
 obtain ⟨v_a,r_a,h_a⟩ : ∃ v r',r.num 4=(v,r'):=⟨_,_,rfl⟩
 have b_a:v_a<256^4:=by have:=RS.num_lt r 4; rw [h_a] at this; exact this
 have o_a:r_a.Ok:=by have:=RS.num_ok o_r 4; rw [h_a] at this; exact this
 have s_a:r_a.s.size≤1000000:=by have:=RS.num_s r 4; rw [h_a] at this; dsimp only at this; rw [this]; exact s_r
 obtain ⟨v_b,r_b,h_b⟩ : ∃ v r',r_a.num 2=(v,r'):=⟨_,_,rfl⟩
 have b_b:v_b<256^2:=by have:=RS.num_lt r_a 2; rw [h_b] at this; exact this
 have o_b:r_b.Ok:=by have:=RS.num_ok o_a 2; rw [h_b] at this; exact this
 have s_b:r_b.s.size≤1000000:=by have:=RS.num_s r_a 2; rw [h_b] at this; dsimp only at this; rw [this]; exact s_a
 obtain ⟨v_f,r_f,h_f⟩ : ∃ v r',r_b.num 2=(v,r'):=⟨_,_,rfl⟩
 have b_f:v_f<256^2:=by have:=RS.num_lt r_b 2; rw [h_f] at this; exact this
 have o_f:r_f.Ok:=by have:=RS.num_ok o_b 2; rw [h_f] at this; exact this
 have s_f:r_f.s.size≤1000000:=by have:=RS.num_s r_b 2; rw [h_f] at this; dsimp only at this; rw [this]; exact s_b
 obtain ⟨v_m,r_m,h_m⟩ : ∃ v r',r_f.num 2=(v,r'):=⟨_,_,rfl⟩
 have b_m:v_m<256^2:=by have:=RS.num_lt r_f 2; rw [h_m] at this; exact this
 have o_m:r_m.Ok:=by have:=RS.num_ok o_f 2; rw [h_m] at this; exact this
 have s_m:r_m.s.size≤1000000:=by have:=RS.num_s r_f 2; rw [h_m] at this; dsimp only at this; rw [this]; exact s_f
 obtain ⟨v_t,r_t,h_t⟩ : ∃ v r',r_m.num 4=(v,r'):=⟨_,_,rfl⟩
 have b_t:v_t<256^4:=by have:=RS.num_lt r_m 4; rw [h_t] at this; exact this
 have o_t:r_t.Ok:=by have:=RS.num_ok o_m 4; rw [h_t] at this; exact this
 have s_t:r_t.s.size≤1000000:=by have:=RS.num_s r_m 4; rw [h_t] at this; dsimp only at this; rw [this]; exact s_m
 obtain ⟨v_u,r_u,h_u⟩ : ∃ v r',r_t.num 4=(v,r'):=⟨_,_,rfl⟩
 have b_u:v_u<256^4:=by have:=RS.num_lt r_t 4; rw [h_u] at this; exact this
 have o_u:r_u.Ok:=by have:=RS.num_ok o_t 4; rw [h_u] at this; exact this
 have s_u:r_u.s.size≤1000000:=by have:=RS.num_s r_t 4; rw [h_u] at this; dsimp only at this; rw [this]; exact s_t
 obtain ⟨v_l,r_l,h_l⟩ : ∃ v r',r_u.num 4=(v,r'):=⟨_,_,rfl⟩
 have b_l:v_l<256^4:=by have:=RS.num_lt r_u 4; rw [h_l] at this; exact this
 have o_l:r_l.Ok:=by have:=RS.num_ok o_u 4; rw [h_l] at this; exact this
 have s_l:r_l.s.size≤1000000:=by have:=RS.num_s r_u 4; rw [h_l] at this; dsimp only at this; rw [this]; exact s_u
 obtain ⟨v_wh,r_wh,h_wh⟩ : ∃ v r',r_l.num 4=(v,r'):=⟨_,_,rfl⟩
 have b_wh:v_wh<256^4:=by have:=RS.num_lt r_l 4; rw [h_wh] at this; exact this
 have o_wh:r_wh.Ok:=by have:=RS.num_ok o_l 4; rw [h_wh] at this; exact this
 have s_wh:r_wh.s.size≤1000000:=by have:=RS.num_s r_l 4; rw [h_wh] at this; dsimp only at this; rw [this]; exact s_l
 obtain ⟨v_n,r_n,h_n⟩ : ∃ v r',r_wh.num 2=(v,r'):=⟨_,_,rfl⟩
 have b_n:v_n<256^2:=by have:=RS.num_lt r_wh 2; rw [h_n] at this; exact this
 have o_n:r_n.Ok:=by have:=RS.num_ok o_wh 2; rw [h_n] at this; exact this
 have s_n:r_n.s.size≤1000000:=by have:=RS.num_s r_wh 2; rw [h_n] at this; dsimp only at this; rw [this]; exact s_wh
 obtain ⟨v_mo,r_mo,h_mo⟩ : ∃ v r',r_n.num 2=(v,r'):=⟨_,_,rfl⟩
 have b_mo:v_mo<256^2:=by have:=RS.num_lt r_n 2; rw [h_mo] at this; exact this
 have o_mo:r_mo.Ok:=by have:=RS.num_ok o_n 2; rw [h_mo] at this; exact this
 have s_mo:r_mo.s.size≤1000000:=by have:=RS.num_s r_n 2; rw [h_mo] at this; dsimp only at this; rw [this]; exact s_n
 have HD:Hid (hdP r=(⟨v_a,v_f,v_m,v_t,v_u,v_l,v_wh,(r_mo.text v_n).1⟩,((r_mo.text v_n).2.text v_mo).2)):=Lib.hid (by
  unfold hdP
  simp only [h_a,h_b,h_f,h_m,h_t,h_u,h_l,h_wh,h_n,h_mo])
 have o_nm:=RS.text_ok o_mo v_n
 have s_nm:(r_mo.text v_n).2.s.size≤1000000:=by rw [RS.text_s]; exact s_mo
 have H_a:=Lib.hid h_a
 have H_b:=Lib.hid h_b
 have H_f:=Lib.hid h_f
 have H_m:=Lib.hid h_m
 have H_t:=Lib.hid h_t
 have H_u:=Lib.hid h_u
 have H_l:=Lib.hid h_l
 have H_wh:=Lib.hid h_wh
 have H_n:=Lib.hid h_n
 have H_mo:=Lib.hid h_mo
 clear h_a h_b h_f h_m h_t h_u h_l h_wh h_n h_mo
 simp only [Nat.reducePow] at b_a b_b b_f b_m b_t b_u b_l b_wh b_n b_mo
 have hlt:=hB.lt
 have hH0:=Blk.new w [.string { data := #[] },.int .i64 0,.int .u32 0,.int .i64 0,.int .i64 0,.int .i64 0,.int .i64 0,.int .u32 0,.int .i64 0,.int .u64 0,.int .u64 0,.string { data := #[] }] 228
 have hR0:=hB.alloc (.cells #[.string { data := #[] },.int .i64 0,.int .u32 0,.int .i64 0,.int .i64 0,.int .i64 0,.int .i64 0,.int .u32 0,.int .i64 0,.int .u64 0,.int .u64 0,.string { data := #[] }] 228)
 have hU0:=(Upd.refl [b] w).alloc (.cells #[.string { data := #[] },.int .i64 0,.int .u32 0,.int .i64 0,.int .i64 0,.int .i64 0,.int .i64 0,.int .u32 0,.int .i64 0,.int .u64 0,.int .u64 0,.string { data := #[] }] 228)
 have HG:=Lib.hid (Nat.le_refl w.heap.size)
 have hne:w.heap.size≠b:=by omega
 clear hB
 go_enter Tryz.func198,Tryz.ntmps198
 go_wp2_with fail
 generalize hh0:w.heap.size=h0 at *
 have HG1:Hid (w.heap.size≤h0):=Lib.hid (by omega)
 clear HG hh0
 refine (zs b 4 v_a r r_a _ H_a.out hR0 s_r o_r (by omega)).mono ?_
 rintro e x1 ⟨rfl,hR1,hv1⟩
 have hH1:=hH0.upd hv1 (by simpa using hne)
 have hU1:=hU0.then hv1
 clear hH0 hU0 hv1 hR0
 have c9:=hH1.cell 9 rfl
 have f9:=hH1.frz 9
 have HR1:=Lib.hid hR1
 have HH1:=Lib.hid hH1
 have HU1:=Lib.hid hU1
 clear hR1 hH1 hU1
 go_wp2_with fail
 clear c9 f9
 have hR2:=(Blk.setFar HR1.out (a:=⟨h0,9,none⟩) (.int .u64 (v_a:Nat)) (by simpa using hne.symm))
 have hH2:=(Blk.set HH1.out 9 (.int .u64 (v_a:Nat)))
 have hU2:=(Upd.setCell HU1.out (p:=⟨h0,9,none⟩) (.inr HG1.out) (.int .u64 (v_a:Nat)))
 clear HR1 HH1 HU1
 refine (zs b 2 v_b r_a r_b _ H_b.out hR2 s_a o_a (by omega)).mono ?_
 rintro e x3 ⟨rfl,hR3,hv3⟩
 have hH3:=hH2.upd hv3 (by simpa using hne)
 have hU3:=hU2.then hv3
 clear hH2 hU2 hv3 hR2
 have HR3:=Lib.hid hR3
 have HH3:=Lib.hid hH3
 have HU3:=Lib.hid hU3
 clear hR3 hH3 hU3
 go_wp2_with fail
 have hR4:=HR3.out
 have hH4:=HH3.out
 have hU4:=HU3.out
 clear HR3 HH3 HU3
 refine (zs b 2 v_f r_b r_f _ H_f.out hR4 s_b o_b (by omega)).mono ?_
 rintro e x5 ⟨rfl,hR5,hv5⟩
 have hH5:=hH4.upd hv5 (by simpa using hne)
 have hU5:=hU4.then hv5
 clear hH4 hU4 hv5 hR4
 have c10:=hH5.cell 10 rfl
 have f10:=hH5.frz 10
 have HR5:=Lib.hid hR5
 have HH5:=Lib.hid hH5
 have HU5:=Lib.hid hU5
 clear hR5 hH5 hU5
 go_wp2_with fail
 clear c10 f10
 have hR6:=(Blk.setFar HR5.out (a:=⟨h0,10,none⟩) (.int .u64 (v_f:Nat)) (by simpa using hne.symm))
 have hH6:=(Blk.set HH5.out 10 (.int .u64 (v_f:Nat)))
 have hU6:=(Upd.setCell HU5.out (p:=⟨h0,10,none⟩) (.inr HG1.out) (.int .u64 (v_f:Nat)))
 clear HR5 HH5 HU5
 refine (zs b 2 v_m r_f r_m _ H_m.out hR6 s_f o_f (by omega)).mono ?_
 rintro e x7 ⟨rfl,hR7,hv7⟩
 have hH7:=hH6.upd hv7 (by simpa using hne)
 have hU7:=hU6.then hv7
 clear hH6 hU6 hv7 hR6
 have c1:=hH7.cell 1 rfl
 have f1:=hH7.frz 1
 have HR7:=Lib.hid hR7
 have HH7:=Lib.hid hH7
 have HU7:=Lib.hid hU7
 clear hR7 hH7 hU7
 go_wp2_with fail
 clear c1 f1
 have hR8:=(Blk.setFar HR7.out (a:=⟨h0,1,none⟩) (.int .i64 (v_m:Nat)) (by simpa using hne.symm))
 have hH8:=(Blk.set HH7.out 1 (.int .i64 (v_m:Nat)))
 have hU8:=(Upd.setCell HU7.out (p:=⟨h0,1,none⟩) (.inr HG1.out) (.int .i64 (v_m:Nat)))
 clear HR7 HH7 HU7
 refine (zs b 4 v_t r_m r_t _ H_t.out hR8 s_m o_m (by omega)).mono ?_
 rintro e x9 ⟨rfl,hR9,hv9⟩
 have hH9:=hH8.upd hv9 (by simpa using hne)
 have hU9:=hU8.then hv9
 clear hH8 hU8 hv9 hR8
 have c7:=hH9.cell 7 rfl
 have f7:=hH9.frz 7
 have HR9:=Lib.hid hR9
 have HH9:=Lib.hid hH9
 have HU9:=Lib.hid hU9
 clear hR9 hH9 hU9
 go_wp2_with fail
 clear c7 f7
 have hR10:=(Blk.setFar HR9.out (a:=⟨h0,7,none⟩) (.int .u32 (v_t:Nat)) (by simpa using hne.symm))
 have hH10:=(Blk.set HH9.out 7 (.int .u32 (v_t:Nat)))
 have hU10:=(Upd.setCell HU9.out (p:=⟨h0,7,none⟩) (.inr HG1.out) (.int .u32 (v_t:Nat)))
 clear HR9 HH9 HU9
 refine (zs b 4 v_u r_t r_u _ H_u.out hR10 s_t o_t (by omega)).mono ?_
 rintro e x11 ⟨rfl,hR11,hv11⟩
 have hH11:=hH10.upd hv11 (by simpa using hne)
 have hU11:=hU10.then hv11
 clear hH10 hU10 hv11 hR10
 have c2:=hH11.cell 2 rfl
 have f2:=hH11.frz 2
 have HR11:=Lib.hid hR11
 have HH11:=Lib.hid hH11
 have HU11:=Lib.hid hU11
 clear hR11 hH11 hU11
 go_wp2_with fail
 clear c2 f2
 have hR12:=(Blk.setFar HR11.out (a:=⟨h0,2,none⟩) (.int .u32 (v_u:Nat)) (by simpa using hne.symm))
 have hH12:=(Blk.set HH11.out 2 (.int .u32 (v_u:Nat)))
 have hU12:=(Upd.setCell HU11.out (p:=⟨h0,2,none⟩) (.inr HG1.out) (.int .u32 (v_u:Nat)))
 clear HR11 HH11 HU11
 refine (zs b 4 v_l r_u r_l _ H_l.out hR12 s_u o_u (by omega)).mono ?_
 rintro e x13 ⟨rfl,hR13,hv13⟩
 have hH13:=hH12.upd hv13 (by simpa using hne)
 have hU13:=hU12.then hv13
 clear hH12 hU12 hv13 hR12
 have HR13:=Lib.hid hR13
 have HH13:=Lib.hid hH13
 have HU13:=Lib.hid hU13
 clear hR13 hH13 hU13
 go_wp2_with fail
 have hR14:=HR13.out
 have hH14:=HH13.out
 have hU14:=HU13.out
 clear HR13 HH13 HU13
 refine (zs b 4 v_wh r_l r_wh _ H_wh.out hR14 s_l o_l (by omega)).mono ?_
 rintro e x15 ⟨rfl,hR15,hv15⟩
 have hH15:=hH14.upd hv15 (by simpa using hne)
 have hU15:=hU14.then hv15
 clear hH14 hU14 hv15 hR14
 have c3:=hH15.cell 3 rfl
 have f3:=hH15.frz 3
 have c4:=hH15.cell 4 rfl
 have f4:=hH15.frz 4
 have HR15:=Lib.hid hR15
 have HH15:=Lib.hid hH15
 have HU15:=Lib.hid hU15
 clear hR15 hH15 hU15
 go_wp2_with fail
 clear c3 f3 c4 f4
 have hR16:=(Blk.setFar (Blk.setFar HR15.out (a:=⟨h0,3,none⟩) (.int .i64 (v_l:Nat)) (by simpa using hne.symm)) (a:=⟨h0,4,none⟩) (.int .i64 (v_wh:Nat)) (by simpa using hne.symm))
 have hH16:=(Blk.set (Blk.set HH15.out 3 (.int .i64 (v_l:Nat))) 4 (.int .i64 (v_wh:Nat)))
 have hU16:=(Upd.setCell (Upd.setCell HU15.out (p:=⟨h0,3,none⟩) (.inr HG1.out) (.int .i64 (v_l:Nat))) (p:=⟨h0,4,none⟩) (.inr HG1.out) (.int .i64 (v_wh:Nat)))
 clear HR15 HH15 HU15
 refine (zs b 2 v_n r_wh r_n _ H_n.out hR16 s_wh o_wh (by omega)).mono ?_
 rintro e x17 ⟨rfl,hR17,hv17⟩
 have hH17:=hH16.upd hv17 (by simpa using hne)
 have hU17:=hU16.then hv17
 clear hH16 hU16 hv17 hR16
 have HR17:=Lib.hid hR17
 have HH17:=Lib.hid hH17
 have HU17:=Lib.hid hU17
 clear hR17 hH17 hU17
 go_wp2_with fail
 have hR18:=HR17.out
 have hH18:=HH17.out
 have hU18:=HU17.out
 clear HR17 HH17 HU17
 refine (zs b 2 v_mo r_n r_mo _ H_mo.out hR18 s_n o_n (by omega)).mono ?_
 rintro e x19 ⟨rfl,hR19,hv19⟩
 have hH19:=hH18.upd hv19 (by simpa using hne)
 have hU19:=hU18.then hv19
 clear hH18 hU18 hv19 hR18
 have HR19:=Lib.hid hR19
 have HH19:=Lib.hid hH19
 have HU19:=Lib.hid hU19
 clear hR19 hH19 hU19
 go_wp2_with fail
 have hR20:=HR19.out
 have hH20:=HH19.out
 have hU20:=HU19.out
 clear HR19 HH19 HU19
 refine (ka b v_n r_mo _ hR20 s_mo o_mo (by omega)).mono ?_
 rintro e x21 ⟨rfl,hR21,hv21⟩
 have hH21:=hH20.upd hv21 (by simpa using hne)
 have hU21:=hU20.then hv21
 clear hH20 hU20 hv21 hR20
 have c11:=hH21.cell 11 rfl
 have f11:=hH21.frz 11
 have HR21:=Lib.hid hR21
 have HH21:=Lib.hid hH21
 have HU21:=Lib.hid hU21
 clear hR21 hH21 hU21
 go_wp2_with fail
 clear c11 f11
 have hR22:=(Blk.setFar HR21.out (a:=⟨h0,11,none⟩) (.string (zf (r_mo.text v_n).1)) (by simpa using hne.symm))
 have hH22:=(Blk.set HH21.out 11 (.string (zf (r_mo.text v_n).1)))
 have hU22:=(Upd.setCell HU21.out (p:=⟨h0,11,none⟩) (.inr HG1.out) (.string (zf (r_mo.text v_n).1)))
 clear HR21 HH21 HU21
 refine (jg b v_mo _ _ hR22 s_nm o_nm (by omega)).mono ?_
 rintro e x23 ⟨rfl,hR23,hv23⟩
 have hH23:=hH22.upd hv23 (by simpa using hne)
 have hU23:=hU22.then hv23
 clear hH22 hU22 hv23 hR22
 have c0:=hH23.cell 0 rfl
 have f0:=hH23.frz 0
 have c1:=hH23.cell 1 rfl
 have f1:=hH23.frz 1
 have c2:=hH23.cell 2 rfl
 have f2:=hH23.frz 2
 have c3:=hH23.cell 3 rfl
 have f3:=hH23.frz 3
 have c4:=hH23.cell 4 rfl
 have f4:=hH23.frz 4
 have c5:=hH23.cell 5 rfl
 have f5:=hH23.frz 5
 have c6:=hH23.cell 6 rfl
 have f6:=hH23.frz 6
 have c7:=hH23.cell 7 rfl
 have f7:=hH23.frz 7
 have c8:=hH23.cell 8 rfl
 have f8:=hH23.frz 8
 have c9:=hH23.cell 9 rfl
 have f9:=hH23.frz 9
 have c10:=hH23.cell 10 rfl
 have f10:=hH23.frz 10
 have c11:=hH23.cell 11 rfl
 have f11:=hH23.frz 11
 have HR23:=Lib.hid hR23
 have HH23:=Lib.hid hH23
 have HU23:=Lib.hid hU23
 clear hR23 hH23 hU23
 go_wp2
 (try simp only [Exit.inBlock,Exit.then]); refine bodyPost_ret (KZ rfl _ _ h0 _ _ _ _ _ _ _ _ _ _ _ _ rfl (Blk.set12 HH23.out _ _ _ _ _ _ _ _ _ _ _ _)) rfl ⟨?_,?_,Upd.set12 HU23.out (.inr HG1.out) _ _ _ _ _ _ _ _ _ _ _ _⟩
 · rw [HD.out]; rfl
 · rw [HD.out]; exact Blk.far12 HR23.out hne.symm _ _ _ _ _ _ _ _ _ _ _ _
end Go.Proofs.YtigjingielnaoaaGreatDoor
namespace Go.Proofs.YtigjingielnaoaaGreatDoor
open Go.RowKit
theorem Qm {fn:Func} {p t:Tmp} (h:fn.results = #[.cell p 80,.tmp t]) (tmps:Array Value) (w:World) (g:Nat) (c0 c1:Value) (hp:tmps.getD p undef = .pointer (some ⟨g,0,none⟩)) (hB:Blk w g [c0,c1] 80) :
 (results fn tmps).run Tryz.prog w = .ok (.tuple #[.agg #[c0,c1],tmps.getD t undef]) w:=by
 have h0:=hB.cell 0 rfl
 have h1:=hB.cell 1 rfl
 have hp2:tmps[p]?.getD undef = .pointer (some ⟨g,0,none⟩):=by rw [← hp]; simp
 simp [results,h,go_sem,hp2,h0,h1]
theorem KC (a b:ByteArray):(a.toList==b.toList)=decide (a=b):=by
 by_cases h:a=b
 · subst h
   simp
 · rw [decide_eq_false h,beq_eq_false_iff_ne]
   intro h2
   rw [ByteArray.toList_eq,ByteArray.toList_eq] at h2
   exact h (ByteArray.ext (Array.ext' h2))
def mkV (x:(Int×Int)×Bool):Value := .tuple #[.agg #[.int .i64 x.1.1,.int .i64 x.1.2],.bool x.2]
set_option maxRecDepth 100000 in
set_option maxHeartbeats 3200000 in
theorem Km (s:ByteArray) (w:World) (hs:s.size≤1000000) :
 Calls Tryz.prog 46 #[.string s] w fun e w'=>e = .returned (mkV (mkX s))∧Upd [] w w':=by
 obtain ⟨⟨t1,r1⟩,n1⟩ : ∃ p,(⟨s,0,false⟩:RS).text 8=p:=⟨_,rfl⟩
 obtain ⟨⟨v2,r2⟩,n2⟩ : ∃ p,r1.num 8=p:=⟨_,rfl⟩
 obtain ⟨⟨v3,r3⟩,n3⟩ : ∃ p,r2.num 8=p:=⟨_,rfl⟩
 obtain ⟨A,hA⟩ : ∃ A,IntKind.i64.wrap (v2:Int)=A:=⟨_,rfl⟩
 obtain ⟨B,hB⟩ : ∃ B,IntKind.i64.wrap (v3:Int)=B:=⟨_,rfl⟩
 have HX:Hid (mkX s=if (A=0∧B=0)∨s.size=0∨zf (mkW A B)≠s then ((0,0),false) else ((A,B),true)):=Lib.hid (by
  unfold mkX
  rw [n1]
  dsimp only
  rw [n2]
  dsimp only
  rw [n3]
  dsimp only
  rw [hA,hB])
 have o0:RS.Ok ⟨s,0,false⟩:=Nat.zero_le _
 have o1:r1.Ok:=by have:=RS.text_ok o0 8; rw [n1] at this; exact this
 have o2:r2.Ok:=by have:=RS.num_ok o1 8; rw [n2] at this; exact this
 have s1:r1.s=s:=by have:=RS.text_s ⟨s,0,false⟩ 8; rw [n1] at this; exact this
 have s2:r2.s=s:=by have:=RS.num_s r1 8; rw [n2] at this; exact this.trans s1
 have N1:=Lib.hid (fun rb z hR=>jg rb 8 ⟨s,0,false⟩ z hR hs o0 (by omega))
 rw [n1] at N1
 have N2:=Lib.hid (fun rb z hR=>zs rb 8 v2 r1 r2 z n2 hR (by rw [s1]; exact hs) o1 (by omega))
 have N3:=Lib.hid (fun rb z hR=>zs rb 8 v3 r2 r3 z n3 hR (by rw [s2]; exact hs) o2 (by omega))
 have HWR:=Lib.hid (fun z=>VW A B z)
 have HNE:=Lib.hid (KC (zf (mkW A B)) s)
 clear n1 n2 n3 o0 o1 o2 s1 s2
 generalize mkX s=XP at *
 generalize zf (mkW A B)=S2 at *
 have HA:=Lib.hid hA
 have HBV:=Lib.hid hB
 clear hA hB
 have HB0:=Lib.hid (Blk.new w [.int .i64 0,.int .i64 0] 80)
 have HU0:=Lib.hid ((Upd.refl [] w).alloc (.cells #[.int .i64 0,.int .i64 0] 80))
 go_enter Tryz.func46,Tryz.ntmps46
 go_upto_region 1 with fail
 change Code.wp _ _ _ _ (w.alloc (.cells #[.int .i64 0,.int .i64 0] 80))
 generalize w.alloc (.cells #[.int .i64 0,.int .i64 0] 80)=w1 at *
 generalize hb:w.heap.size=b at *
 have HWB:=Lib.hid (show w.heap.size≤b by omega)
 clear hb
 have hb1:b<w1.heap.size:=HB0.out.lt
 have hw0:w.heap.size≤w1.heap.size:=HU0.out.size
 go_wp2_with fail
 refine (xE s _).mono ?_
 rintro e w2 ⟨rfl,hR,hu⟩
 have HB1:=Lib.hid (HB0.out.upd hu (by simp))
 have HU1:=Lib.hid (HU0.out.then hu)
 have HR1:=Lib.hid hR
 clear hR hu HB0 HU0
 generalize w1.heap.size=rb at *
 go_wp2_with fail
 refine (N1.out rb _ HR1.out).mono ?_
 rintro e w3 ⟨rfl,hR,hu⟩
 have HB2:=Lib.hid (HB1.out.upd hu (by simp; omega))
 have HU2:=Lib.hid (HU1.out.trans hu (fun k hk => .inr (by simp at hk; omega)))
 have HR2:=Lib.hid hR
 clear hR hu HB1 HU1 HR1 N1
 go_wp2_with fail
 refine (N2.out rb _ HR2.out).mono ?_
 rintro e w4 ⟨rfl,hR,hu⟩
 have HB3:=Lib.hid (HB2.out.upd hu (by simp; omega))
 have HU3:=Lib.hid (HU2.out.trans hu (fun k hk => .inr (by simp at hk; omega)))
 have HR3:=Lib.hid hR
 clear hR hu HB2 HU2 HR2 N2
 have hA:=HA.out
 go_wp2_with fail
 refine (N3.out rb _ HR3.out).mono ?_
 rintro e w5 ⟨rfl,hR,hu⟩
 have hB:=HBV.out
 have HB4:=Lib.hid ((HB3.out.upd hu (by simp; omega)).alloc (.cells #[.int .i64 A,.int .i64 B] 80))
 have HU4:=Lib.hid ((HU3.out.trans hu (fun k hk => .inr (by simp at hk; omega))).alloc (.cells #[.int .i64 A,.int .i64 B] 80))
 have HC4:=Lib.hid (Blk.new w5 [.int .i64 A,.int .i64 B] 80)
 clear hR hu HB3 HU3 HR3 N3
 go_upto_region 4 with fail
 clear hA hB HA HBV
 change Code.wp _ _ _ _ (w5.alloc (.cells #[.int .i64 A,.int .i64 B] 80))
 generalize w5.alloc (.cells #[.int .i64 A,.int .i64 B] 80)=w6 at *
 generalize w5.heap.size=c at *
 have cA:=HC4.out.all
 go_cut [29] (fun s29 wx => ∃ bb:Bool,s29 = .bool bb∧Hid (bb=decide ((A=0∧B=0)∨s.size=0∨S2≠s))∧Blk wx c [.int .i64 A,.int .i64 B] 80∧Blk wx b [.int .i64 0,.int .i64 0] 80∧Upd [] w wx)
 case first =>
  by_cases h1:A=0∧B=0
  · obtain ⟨rfl,rfl⟩:=h1
    have HT:Hid (true=decide (((0:Int)=0∧(0:Int)=0)∨s.size=0∨S2≠s)):=Lib.hid (by simp)
    go_wp2
    go_meet
    exact ⟨true,rfl,HT,HC4.out,HB4.out,HU4.out⟩
  have HT1:=Lib.hid h1
  by_cases h2:s.size=0
  · have h3:s=ByteArray.empty:=ByteArray.ext (Array.eq_empty_of_size_eq_zero h2)
    have HT:Hid (true=decide ((A=0∧B=0)∨s.size=0∨S2≠s)):=Lib.hid (by simp [h2])
    subst h3
    clear h2
    rcases (by omega:A≠0∨(A=0∧B≠0)) with h4 | ⟨rfl,h4⟩
    · have e4:(A==0)=false:=by simpa using h4
      go_wp2
      go_meet
      exact ⟨true,rfl,HT,HC4.out,HB4.out,HU4.out⟩
    · have e4:(B==0)=false:=by simpa using h4
      go_wp2
      go_meet
      exact ⟨true,rfl,HT,HC4.out,HB4.out,HU4.out⟩
  have e5:(s.toList==[])=false:=by
   have:s.toList≠[]:=fun e=>h2 (by have:=congrArg List.length e; rw [ByteArray.toList_eq] at this; simpa using this)
   simpa using this
  have HT:Hid ((!decide (S2=s))=decide ((A=0∧B=0)∨s.size=0∨S2≠s)):=Lib.hid (by by_cases h9:S2=s<;>simp [h1,h2,h9])
  clear h2
  rcases (by omega:A≠0∨(A=0∧B≠0)) with h4 | ⟨rfl,h4⟩
  · have e4:(A==0)=false:=by simpa using h4
    clear h1
    go_wp2_with fail
    refine (HWR.out _).mono ?_
    rintro e w7 ⟨rfl,hu⟩
    have HR7:=Lib.hid (And.intro (HC4.out.upd hu (by simp)) (And.intro (HB4.out.upd hu (by simp)) (HU4.out.then hu)))
    have hne:=HNE.out
    clear hu
    go_wp2
    go_meet
    exact ⟨_,rfl,HT,HR7.out⟩
  · have e4:(B==0)=false:=by simpa using h4
    clear h1
    go_wp2_with fail
    refine (HWR.out _).mono ?_
    rintro e w7 ⟨rfl,hu⟩
    have HR7:=Lib.hid (And.intro (HC4.out.upd hu (by simp)) (And.intro (HB4.out.upd hu (by simp)) (HU4.out.then hu)))
    have hne:=HNE.out
    clear hu
    go_wp2
    go_meet
    exact ⟨_,rfl,HT,HR7.out⟩
 case rest =>
 obtain ⟨bb,rfl,HT,hC,hB,hU⟩:=hcut
 have HB:=Lib.hid hB
 have HU:=Lib.hid hU
 have cA:=hC.all
 clear hB hU HC4 HB4 HU4
 cases bb with
 | true =>
   have HV:=Lib.hid (HX.out.trans (if_pos (of_decide_eq_true HT.out.symm)))
   have kA:=HB.out.all
   have fA:=HB.out.frz
   go_wp2
   exact bodyPost_ret (Qm rfl _ _ b _ _ rfl ((HB.out.set 0 _).set 1 _)) rfl ⟨by rw [HV.out]; rfl,(HU.out.setCell (p:=⟨b,0,none⟩) (.inr HWB.out) _).setCell (p:=⟨b,1,none⟩) (.inr HWB.out) _⟩
 | false =>
   have HV:=Lib.hid (HX.out.trans (if_neg (of_decide_eq_false HT.out.symm)))
   have kA:=HB.out.all
   have fA:=HB.out.frz
   go_wp2
   exact bodyPost_ret (Qm rfl _ _ b _ _ rfl ((HB.out.set 0 _).set 1 _)) rfl ⟨by rw [HV.out]; rfl,(HU.out.setCell (p:=⟨b,0,none⟩) (.inr HWB.out) _).setCell (p:=⟨b,1,none⟩) (.inr HWB.out) _⟩
end Go.Proofs.YtigjingielnaoaaGreatDoor
namespace Go.Proofs.YtigjingielnaoaaGreatDoor
open Go.RowKit
theorem zcV (m:Int) (w:World):Calls Tryz.prog 106 #[.int .i64 m] w fun e w'=>e = .returned (.bool (decide (0≤m)&&decide (m≤511)))∧w=w':=by
 by_cases h:0≤m
 · have t1:decide (0≤m)=true:=decide_eq_true h
   go_enter Tryz.func106,Tryz.ntmps106
   go_wp2
   go_returns
   exact ⟨by rw [t1]; rfl,rfl⟩
 · have t1:decide (0≤m)=false:=decide_eq_false h
   go_enter Tryz.func106,Tryz.ntmps106
   go_wp2
   go_returns
   exact ⟨rfl,rfl⟩
end Go.Proofs.YtigjingielnaoaaGreatDoor
