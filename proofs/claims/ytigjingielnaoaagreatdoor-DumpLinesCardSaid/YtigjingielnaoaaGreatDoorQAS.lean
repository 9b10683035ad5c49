/- Package inflate: plain mathematics of its steps; the walks of take, must, next. -/
import Derived.WalkLawsBesides
import Derived.Test.YtigjingielnaoaaGreatDoorQAR
set_option linter.unusedVariables false
set_option linter.unusedSimpArgs false
set_option linter.unusedSectionVars false
namespace Go.Proofs.YtigjingielnaoaaGreatDoor
open Go.RowKit
def zq (s:ByteArray) (a n:Nat):Except Nat (Nat×Nat):=if a+n≤8*s.size then .ok (zx s a n,a+n) else .error 3
def yg (l:List Int) (s:ByteArray) (a:Nat):Except Nat (Nat×Nat) :=
 if zn l=3∨zn l=0 then .error 2 else
  match nxt (zi l) s a false with
  | (some x,a',_) => .ok (x,a')
  | (none,_,true) => .error 3
  | (none,_,false) => .error 2
theorem Zr (n:List Nat) (s:ByteArray) (f k a c:Nat) {x:Nat} (h:(xK n s f k a c).1=some x):(xK n s f k a c).2.2=false:=by
 induction f generalizing k a c with
 | zero=>rfl
 | succ f ih =>
   by_cases h1:a<8*s.size
   · cases hx:xZ n k (2*c+zx s a 1) with
     | some y=>rw [qV h1 hx]
     | none=>rw [qR h1 hx] at h ⊢; exact ih _ _ _ h
   · rw [jG h1] at h; cases h
theorem YZ (n:List Nat) (s:ByteArray) (a:Nat) {x:Nat} (h:(nxt n s a false).1=some x):(nxt n s a false).2.2=false:=Zr n s 15 1 a 0 h
def QT (w:World) (b:Nat) (s:ByteArray) (r:Except Nat (Value×Nat)) (e:Ending) (w':World):Prop :=
 match r with
 | .ok (v,a')=>e = .returned v∧RdAt w' b 268 s a' false∧Upd [b] w w'
 | .error c=>e = .panicked [{ v := .iface 39 (.int .i64 (c:Nat)),recovered:=false }]∧Upd [b] w w'
set_option maxHeartbeats 1600000 in
theorem Vv (b n:Nat) (w:World) (s:ByteArray) (a:Nat) (hR:RdAt w b 268 s a false) (hs:s.size≤1099511627776) (hn:n≤32) :
 Calls Tryz.prog 233 #[.agg #[.pointer (some ⟨b,0,none⟩)],.int .i64 (n:Nat)] w
  (QT w b s ((zq s a n).map fun r=>(.int .i64 (r.1:Nat),r.2))):=by
 have hle:=hR.2
 have HB:=Lib.hid (fun w' (hU:Upd [] w w')=>vu b (n:Nat) w' s a false (hR.upd hU (by simp)) hs)
 have hblt:=hR.1.lt
 by_cases hc:a+n≤8*s.size
 · have e2:yZ s a false (n:Nat)=false:=by simp [yZ]; omega
   have e3:rdTo s a false (n:Nat)=a+n:=by unfold rdTo; rw [e2]; simp
   have e4:yY s a false (n:Nat)=zx s a n:=by unfold yY; rw [e2]; simp
   rw [e2,e3,e4] at HB
   have ht:zq s a n = .ok (zx s a n,a+n):=by unfold zq; rw [if_pos hc]
   rw [ht]
   have hbl:=qy s a n
   have hp32:2^n≤2^32:=Nat.pow_le_pow_right (by omega) hn
   have hv:zx s a n<4294967296:=by omega
   clear e2 e3 e4 ht hbl hp32
   generalize zx s a n=v at *
   go_enter Tryz.func233,Tryz.ntmps233
   go_wp2_with fail
   refine (HB.out _ ((Upd.refl [] w).alloc _)).mono ?_
   rintro e w1 ⟨rfl,hR1,hU1⟩
   have c1:w1.cell? ⟨w.heap.size,0,none⟩=some (.pointer (some ⟨b,0,none⟩)):=((Blk.new w [.pointer (some ⟨b,0,none⟩)] 255).upd hU1 (by simp; omega)).cell 0 rfl
   go_wp2_with fail
   refine (yj b w1 _ s _ false hR1).mono ?_
   rintro e w2 ⟨rfl,rfl⟩
   go_wp2
   go_returns
   exact ⟨rfl,hR1,(((Upd.refl [b] w).alloc _).then hU1)⟩
 · have e2:yZ s a false (n:Nat)=true:=by simp [yZ]; omega
   have e3:rdTo s a false (n:Nat)=a:=by unfold rdTo; rw [e2]; simp
   have e4:yY s a false (n:Nat)=0:=by unfold yY; rw [e2]; simp
   rw [e2,e3,e4] at HB
   have ht:zq s a n = .error 3:=by unfold zq; rw [if_neg hc]
   rw [ht]
   clear e2 e3 e4 ht
   go_enter Tryz.func233,Tryz.ntmps233
   go_wp2_with fail
   refine (HB.out _ ((Upd.refl [] w).alloc _)).mono ?_
   rintro e w1 ⟨rfl,hR1,hU1⟩
   have c1:w1.cell? ⟨w.heap.size,0,none⟩=some (.pointer (some ⟨b,0,none⟩)):=((Blk.new w [.pointer (some ⟨b,0,none⟩)] 255).upd hU1 (by simp; omega)).cell 0 rfl
   go_wp2_with fail
   refine (yj b w1 _ s _ true hR1).mono ?_
   rintro e w2 ⟨rfl,rfl⟩
   go_wp2
   exact ⟨rfl,rfl,(((Upd.refl [b] w).alloc _).then hU1)⟩
theorem yv (w:World):Calls Tryz.prog 238 #[.bool true] w fun e w'=>e = .returned (.tuple #[])∧w=w':=by
 go_enter Tryz.func238,Tryz.ntmps238
 go_wp2
 go_returns
 exact ⟨rfl,rfl⟩
theorem yP (w:World):Calls Tryz.prog 238 #[.bool false] w fun e w'=>e = .panicked [{ v := .iface 39 (.int .i64 2),recovered:=false }]∧w=w':=by
 go_enter Tryz.func238,Tryz.ntmps238
 go_wp2
 exact ⟨rfl,rfl,rfl⟩
def DecFor (w:World) (dv:Value) (l:List Int) (b:Nat):Prop :=
 (dv = .pointer none∧(zn l=3∨zn l=0))∨(zn l≠3∧zn l≠0 ∧ ∃ d v,dv = .pointer (some ⟨d,0,none⟩)∧DcAt w d v (zi l)∧d≠b∧v.ownBlock≠some b)
theorem DecFor.upd {w w':World} {dv:Value} {l:List Int} {b:Nat} (h:DecFor w dv l b) (hU:Upd [b] w w'):DecFor w' dv l b:=by
 rcases h with h | ⟨h1,h2,d,v,e,hD,h3,h4⟩
 · exact .inl h
 · exact .inr ⟨h1,h2,d,v,e,hD.upd hU (by simpa using h3) (fun k hk hm=>by simp at hm; exact h4 (by rw [hk,hm])),h3,h4⟩
set_option maxHeartbeats 1600000 in
theorem XB (b:Nat) (dv:Value) (l:List Int) (w:World) (s:ByteArray) (a:Nat) (hR:RdAt w b 268 s a false) (hs:s.size≤1099511627776) (hD:DecFor w dv l b) :
 Calls Tryz.prog 246 #[.agg #[.pointer (some ⟨b,0,none⟩)],dv] w
  (QT w b s ((yg l s a).map fun r=>(.int .i64 (r.1:Nat),r.2))):=by
 have hblt:=hR.1.lt
 have hU0:Upd [] w (w.alloc (.cells #[.pointer (some ⟨b,0,none⟩)] 255)):=(Upd.refl [] w).alloc _
 have hP:=Blk.new w [.pointer (some ⟨b,0,none⟩)] 255
 have hR0:=hR.upd hU0 (by simp)
 rcases hD with ⟨rfl,hk⟩ | ⟨hk3,hk0,d,v,rfl,hD,hdb,hvb⟩
 · have ht:yg l s a = .error 2:=by unfold yg; rw [if_pos hk]
   rw [ht]
   clear ht
   go_enter Tryz.func246,Tryz.ntmps246
   go_wp2_with fail
   refine (zcF _ _).mono ?_
   rintro e w1 ⟨rfl,rfl⟩
   go_wp2_with fail
   refine (yj b _ _ s _ false hR0).mono ?_
   rintro e w2 ⟨rfl,rfl⟩
   go_wp2_with fail
   refine (yP _).mono ?_
   rintro e w2 ⟨rfl,rfl⟩
   go_wp2
   exact ⟨rfl,rfl,hU0.mono (by simp)⟩
 · obtain ⟨hok,hps⟩:=kX hk3
   have h300:(zi l).length≤300:=by rw [yD]; exact (zU hok).1
   have hNx:=zc1 d b v (zi l) _ s a false (hD.upd hU0 (by simp) (by simp)) hR0 hs hdb hvb hps h300
   have ht:yg l s a=match nxt (zi l) s a false with
    | (some x,a',_) => .ok (x,a')
    | (none,_,true) => .error 3
    | (none,_,false) => .error 2:=by unfold yg; rw [if_neg (by omega)]
   rw [ht]
   clear ht
   have hsb:=fun x=>@YZ (zi l) s a x
   generalize nxt (zi l) s a false=rr at *
   obtain ⟨o,a',bad'⟩:=rr
   cases o with
   | some x =>
     have e1:Jb (some x,a',bad') = .tuple #[.int .i64 (x:Nat),.bool true]:=rfl
     rw [e1] at hNx
     have hbf:bad'=false:=hsb x rfl
     subst hbf
     have HN:=Lib.hid hNx
     clear hNx e1 hsb
     go_enter Tryz.func246,Tryz.ntmps246
     go_wp2_with fail
     refine HN.out.mono ?_
     rintro e w1 ⟨rfl,hR1,hU1⟩
     have c1:=(hP.upd hU1 (by simp; omega)).cell 0 rfl
     go_wp2_with fail
     refine (yj b _ _ s _ false hR1).mono ?_
     rintro e w2 ⟨rfl,rfl⟩
     go_wp2_with fail
     refine (yv _).mono ?_
     rintro e w2 ⟨rfl,rfl⟩
     go_wp2
     go_returns
     exact ⟨rfl,hR1,(hU0.mono (by simp)).then hU1⟩
   | none =>
     have e1:Jb (none,a',bad') = .tuple #[.int .i64 0,.bool false]:=rfl
     rw [e1] at hNx
     have HN:=Lib.hid hNx
     clear hNx e1
     cases bad' with
     | true =>
       go_enter Tryz.func246,Tryz.ntmps246
       go_wp2_with fail
       refine HN.out.mono ?_
       rintro e w1 ⟨rfl,hR1,hU1⟩
       have c1:=(hP.upd hU1 (by simp; omega)).cell 0 rfl
       go_wp2_with fail
       refine (yj b _ _ s _ true hR1).mono ?_
       rintro e w2 ⟨rfl,rfl⟩
       go_wp2
       exact ⟨rfl,rfl,(hU0.mono (by simp)).then hU1⟩
     | false =>
       go_enter Tryz.func246,Tryz.ntmps246
       go_wp2_with fail
       refine HN.out.mono ?_
       rintro e w1 ⟨rfl,hR1,hU1⟩
       have c1:=(hP.upd hU1 (by simp; omega)).cell 0 rfl
       go_wp2_with fail
       refine (yj b _ _ s _ false hR1).mono ?_
       rintro e w2 ⟨rfl,rfl⟩
       go_wp2_with fail
       refine (yP _).mono ?_
       rintro e w2 ⟨rfl,rfl⟩
       go_wp2
       exact ⟨rfl,rfl,(hU0.mono (by simp)).then hU1⟩
theorem yS {b n:Nat} {w:World} {s:ByteArray} {a v a':Nat} (hR:RdAt w b 268 s a false) (hs:s.size≤1099511627776) (hn:n≤32) (h:zq s a n = .ok (v,a')) :
 Calls Tryz.prog 233 #[.agg #[.pointer (some ⟨b,0,none⟩)],.int .i64 (n:Nat)] w fun e w'=>e = .returned (.int .i64 (v:Nat))∧RdAt w' b 268 s a' false∧Upd [b] w w':=by
 have hT:=Vv b n w s a hR hs hn
 rw [h] at hT; exact hT
theorem xe {b n:Nat} {w:World} {s:ByteArray} {a c:Nat} (hR:RdAt w b 268 s a false) (hs:s.size≤1099511627776) (hn:n≤32) (h:zq s a n = .error c) :
 Calls Tryz.prog 233 #[.agg #[.pointer (some ⟨b,0,none⟩)],.int .i64 (n:Nat)] w fun e w'=>e = .panicked [{ v := .iface 39 (.int .i64 (c:Nat)),recovered:=false }]∧Upd [b] w w':=by
 have hT:=Vv b n w s a hR hs hn
 rw [h] at hT; exact hT
theorem Qf {b:Nat} {dv:Value} {l:List Int} {w:World} {s:ByteArray} {a v a':Nat} (hR:RdAt w b 268 s a false) (hs:s.size≤1099511627776) (hD:DecFor w dv l b) (h:yg l s a = .ok (v,a')) :
 Calls Tryz.prog 246 #[.agg #[.pointer (some ⟨b,0,none⟩)],dv] w fun e w'=>e = .returned (.int .i64 (v:Nat))∧RdAt w' b 268 s a' false∧Upd [b] w w':=by
 have hT:=XB b dv l w s a hR hs hD
 rw [h] at hT; exact hT
theorem Jm {b:Nat} {dv:Value} {l:List Int} {w:World} {s:ByteArray} {a c:Nat} (hR:RdAt w b 268 s a false) (hs:s.size≤1099511627776) (hD:DecFor w dv l b) (h:yg l s a = .error c) :
 Calls Tryz.prog 246 #[.agg #[.pointer (some ⟨b,0,none⟩)],dv] w fun e w'=>e = .panicked [{ v := .iface 39 (.int .i64 (c:Nat)),recovered:=false }]∧Upd [b] w w':=by
 have hT:=XB b dv l w s a hR hs hD
 rw [h] at hT; exact hT
end Go.Proofs.YtigjingielnaoaaGreatDoor
namespace Go.Proofs.YtigjingielnaoaaGreatDoor
open Go.RowKit
def xf (s:ByteArray) (sym:Nat) (L:List Nat) (a:Nat):Except Nat ((Nat×Nat)×Nat) :=
 if sym=16 then (if L=[] then .error 2 else (zq s a 2).map fun r=>((3+r.1,L.getLastD 0),r.2))
 else if sym=17 then (zq s a 3).map fun r=>((3+r.1,0),r.2)
 else (zq s a 7).map fun r=>((11+r.1,0),r.2)
def JQ (r:(Nat×Nat)×Nat):Value×Nat:=(.tuple #[.int .i64 (r.1.1:Nat),.int .i64 (r.1.2:Nat)],r.2)
theorem zB (s:ByteArray) (a n:Nat):(∃ v,v<2^n∧a+n≤8*s.size∧zq s a n = .ok (v,a+n))∨zq s a n = .error 3:=by
 unfold zq
 by_cases h:a+n≤8*s.size
 · exact .inl ⟨_,qy s a n,h,by rw [if_pos h]⟩
 · exact .inr (by rw [if_neg h])
set_option maxRecDepth 100000 in
set_option maxHeartbeats 3200000 in
theorem Xn (b sym:Nat) (v:Value) (L:List Nat) (w:World) (s:ByteArray) (a:Nat) (hR:RdAt w b 268 s a false) (hs:s.size≤1099511627776)
 (hL:Row w 3 1 v L.length (zy L)) (hb:v.ownBlock≠some b) (hlen:L.length≤100000) (h15 : ∀ x∈L,x≤15) (hsym:sym≤18) :
 Calls Tryz.prog 259 #[.agg #[.pointer (some ⟨b,0,none⟩)],.int .i64 (sym:Nat),v] w
  (QT w b s ((xf s sym L a).map JQ)):=by
 have hblt:=hR.1.lt
 have hU0:Upd [] w (w.alloc (.cells #[.pointer (some ⟨b,0,none⟩)] 255)):=(Upd.refl [] w).alloc _
 have hP:=Blk.new w [.pointer (some ⟨b,0,none⟩)] 255
 have hR0:=hR.upd hU0 (by simp)
 have hU0b:Upd [b] w (w.alloc (.cells #[.pointer (some ⟨b,0,none⟩)] 255)):=hU0.mono (by simp)
 obtain ⟨va,vc,rfl⟩:=hL.form
 by_cases h16:sym=16
 · subst h16
   by_cases hL0:L=[]
   · subst hL0
     have hp:xf s 16 [] a = .error 2:=by simp [xf]
     rw [hp]
     clear hp
     go_enter Tryz.func259,Tryz.ntmps259
     go_wp2_with fail
     refine (yP _).mono ?_
     rintro e w2 ⟨rfl,rfl⟩
     go_wp2
     exact ⟨rfl,rfl,hU0b⟩
   · have hpos:0<L.length:=List.length_pos_iff.2 hL0
     have hpf:decide ((0:Int)<(L.length:Int))=true:=by simp; omega
     have hpz:(0:Int)<(L.length:Int):=by omega
     have hp:xf s 16 L a=(zq s a 2).map fun r=>((3+r.1,L.getLastD 0),r.2):=by simp [xf,hL0]
     rw [hp]
     clear hp hL0
     obtain ⟨g,vc',hve,hg1,hg2⟩:=hL.form' hpos
     cases hve
     obtain ⟨y,hy⟩ : ∃ y,L.getLastD 0=y:=⟨_,rfl⟩
     have hyl:L[L.length-1]? =some y:=by
      rw [← hy,List.getLastD_eq_getLast?,List.getLast?_eq_getElem?,List.getElem?_eq_getElem (by omega)]; rfl
     rw [hy]
     have d0:=Row.cell (hL.alloc (.cells #[.pointer (some ⟨b,0,none⟩)] 255)) (L.length-1) (zZ _ _ _ hyl)
     have hgb:g≠b:=fun e=>hb (by rw [e]; rfl)
     have c0:=hP.cell 0 rfl
     obtain ⟨M,hM⟩ : ∃ M,L.length=M+1:=⟨L.length-1,by omega⟩
     rw [hM] at d0 hL hpf hpz hlen ⊢
     rw [Nat.add_sub_cancel] at d0
     clear hy hyl hM hb
     have e1:IntKind.i64.wrap (M:Int)=(M:Int):=IntWalk.i64_in _ (by omega)
     have hM0:(0:Int)≤(M:Int):=by omega
     rcases zB s a 2 with ⟨t,ht4,hta,ht⟩ | ht
     · have HT:=Lib.hid (yS (hR0.upd (Upd.drew (Upd.refl [] _)) (by simp)) hs (by omega) ht)
       rw [ht]
       go_enter Tryz.func259,Tryz.ntmps259
       go_wp2_with fail
       refine (yv _).mono ?_
       rintro e w2 ⟨rfl,rfl⟩
       have e2:IntKind.i64.wrap (3+(t:Int))=3+(t:Int):=IntWalk.i64_in _ (by omega)
       have hM1:(M:Int)<(M:Int)+1:=by omega
       go_wp2
       go_region_law ((go_simp; go_at_call 233; refine HT.out.mono ?_; rintro e w4 ⟨rfl,hR4,hU4⟩; have d4:=(hU4.at (b:=g) (by simp; omega) (by simpa using hgb) M).trans d0))
       all_goals go_wp2
       all_goals go_returns
       all_goals exact ⟨by first | (simp [Act.put]; done) | (simp [JQ]; done),hR4,hU0b.drew.then hU4⟩
     · have HT:=Lib.hid (xe (hR0.upd (Upd.drew (Upd.refl [] _)) (by simp)) hs (by omega) ht)
       rw [ht]
       go_enter Tryz.func259,Tryz.ntmps259
       go_wp2_with fail
       refine (yv _).mono ?_
       rintro e w2 ⟨rfl,rfl⟩
       have hM1:(M:Int)<(M:Int)+1:=by omega
       go_wp2
       refine wp_region_held_drew (S:=fun w'=>w'.cell? ⟨w.heap.size,0,none⟩=some (.pointer (some ⟨b,0,none⟩))∧w'.cell? ⟨g,M,none⟩=some (.int .i64 (y:Nat))) (by kernel_rfl) ⟨c0,d0⟩ (fun hHeld=>?_)
       refine wpAnyH_take (i:=0) (v:=?v0) rfl (by kernel_rfl) (by kernel_rfl) (by kernel_rfl) (fun _ _ _ h=>h) (Or.inl ⟨by rfl,?hy0⟩) (by assumption) ?r0
       case hy0=>(intro w hSw; (try dsimp only at hSw); go_simp; try with_reducible rfl)
       try simp only [Act.put,List.setIfInBounds_toArray,List.set_cons_zero,List.set_cons_succ]
       refine wpAnyH_take (i:=3) (v:=?v3) rfl (by kernel_rfl) (by kernel_rfl) (by kernel_rfl) (fun _ _ _ h=>h) (Or.inl ⟨by rfl,?hy3⟩) (by assumption) ?r3
       case hy3=>(intro w hSw; (try dsimp only at hSw); go_simp; try with_reducible rfl)
       try simp only [Act.put,List.setIfInBounds_toArray,List.set_cons_zero,List.set_cons_succ]
       refine wpAnyH_take (i:=4) (v:=?v4) rfl (by kernel_rfl) (by kernel_rfl) (by kernel_rfl) (fun _ _ _ h=>h) (Or.inl ⟨by rfl,?hy4⟩) (by assumption) ?r4
       case hy4=>(intro w hSw; (try dsimp only at hSw); go_simp; try with_reducible rfl)
       try simp only [Act.put,List.setIfInBounds_toArray,List.set_cons_zero,List.set_cons_succ]
       refine wpAnyH_take (i:=5) (v:=?v5) rfl (by kernel_rfl) (by kernel_rfl) (by kernel_rfl) (fun _ _ _ h=>h) (Or.inl ⟨by rfl,?hy5⟩) (by assumption) ?r5
       case hy5=>(intro w hSw; (try dsimp only at hSw); go_simp; try with_reducible rfl)
       try simp only [Act.put,List.setIfInBounds_toArray,List.set_cons_zero,List.set_cons_succ]
       refine wpAnyH_take (i:=6) (v:=?v6) rfl (by kernel_rfl) (by kernel_rfl) (by kernel_rfl) (fun _ _ _ h=>h) (Or.inl ⟨by rfl,?hy6⟩) (by assumption) ?r6
       case hy6=>(intro w hSw; (try dsimp only at hSw); go_simp; try with_reducible rfl)
       try simp only [Act.put,List.setIfInBounds_toArray,List.set_cons_zero,List.set_cons_succ]
       refine wpAnyH_take (i:=7) (v:=?v7) rfl (by kernel_rfl) (by kernel_rfl) (by kernel_rfl) (fun _ _ _ h=>h) (Or.inl ⟨by rfl,?hy7⟩) (by assumption) ?r7
       case hy7=>(intro w hSw; (try dsimp only at hSw); go_simp; try with_reducible rfl)
       try simp only [Act.put,List.setIfInBounds_toArray,List.set_cons_zero,List.set_cons_succ]
       refine wpAnyH_take (i:=8) (v:=?v8) rfl (by kernel_rfl) (by kernel_rfl) (by kernel_rfl) (fun _ _ _ h=>h) (Or.inl ⟨by rfl,?hy8⟩) (by assumption) ?r8
       case hy8=>(intro w hSw; (try dsimp only at hSw); go_simp; try with_reducible rfl)
       try simp only [Act.put,List.setIfInBounds_toArray,List.set_cons_zero,List.set_cons_succ]
       refine wpAnyH_ready (rs:=[1]) (by kernel_rfl) (by simp) ?_
       refine AllReadyH.cons rfl (fun K hK=>?_) AllReadyH.nil
       go_simp
       go_at_call 233
       refine HT.out.mono ?_
       rintro e w4 ⟨rfl,hU4⟩
       go_wp2
       exact ⟨rfl,rfl,hU0b.drew.then hU4⟩
 · have h16f:((sym:Int)==16)=false:=by simp; omega
   by_cases h17:sym=17
   · subst h17
     have hp:xf s 17 L a=(zq s a 3).map fun r=>((3+r.1,0),r.2):=by simp [xf]
     rw [hp]
     clear hp
     rcases zB s a 3 with ⟨t,ht4,hta,ht⟩ | ht
     · have HT:=Lib.hid (yS hR0 hs (by omega) ht)
       rw [ht]
       go_enter Tryz.func259,Tryz.ntmps259
       go_wp2_with fail
       refine HT.out.mono ?_
       rintro e w4 ⟨rfl,hR4,hU4⟩
       go_wp2
       go_returns
       exact ⟨by first | (simp [Act.put]; done) | (simp [JQ]; done),hR4,hU0b.then hU4⟩
     · have HT:=Lib.hid (xe hR0 hs (by omega) ht)
       rw [ht]
       go_enter Tryz.func259,Tryz.ntmps259
       go_wp2_with fail
       refine HT.out.mono ?_
       rintro e w4 ⟨rfl,hU4⟩
       go_wp2
       exact ⟨rfl,rfl,hU0b.then hU4⟩
   · have h17f:((sym:Int)==17)=false:=by simp; omega
     have hp:xf s sym L a=(zq s a 7).map fun r=>((11+r.1,0),r.2):=by unfold xf; rw [if_neg h16,if_neg h17]
     rw [hp]
     clear hp
     rcases zB s a 7 with ⟨t,ht4,hta,ht⟩ | ht
     · have HT:=Lib.hid (yS hR0 hs (by omega) ht)
       rw [ht]
       go_enter Tryz.func259,Tryz.ntmps259
       go_wp2_with fail
       refine HT.out.mono ?_
       rintro e w4 ⟨rfl,hR4,hU4⟩
       go_wp2
       go_returns
       exact ⟨by first | (simp [Act.put]; done) | (simp [JQ]; done),hR4,hU0b.then hU4⟩
     · have HT:=Lib.hid (xe hR0 hs (by omega) ht)
       rw [ht]
       go_enter Tryz.func259,Tryz.ntmps259
       go_wp2_with fail
       refine HT.out.mono ?_
       rintro e w4 ⟨rfl,hU4⟩
       go_wp2
       exact ⟨rfl,rfl,hU0b.then hU4⟩
end Go.Proofs.YtigjingielnaoaaGreatDoor
namespace Go.Proofs.YtigjingielnaoaaGreatDoor
open Go.RowKit
def xI (s:ByteArray) (k:Nat) (L:List Nat) (a:Nat):Except Nat ((Nat×Nat)×Nat):=if 15<k then xf s k L a else .ok ((1,k),a)
def xU (l:List Int) (s:ByteArray) (many:Nat):Nat→List Nat→Nat→Except Nat (List Nat×Nat)
 | 0,L,a => .ok (L,a)
 | f+1,L,a =>
   if L.length<many then
    match yg l s a with
    | .error c => .error c
    | .ok r =>
      match xI s r.1 L r.2 with
      | .error c => .error c
      | .ok q=>if q.1.1≤many-L.length then xU l s many f (L++List.replicate q.1.1 q.1.2) q.2 else .error 2
   else .ok (L,a)
theorem Zg {l:List Int} {s:ByteArray} {many f a:Nat} {L:List Nat} (h : ¬ L.length<many):xU l s many f L a = .ok (L,a):=by
 cases f<;>simp [xU,h]
theorem zeL (n:List Nat) (k i j:Nat) {x:Nat} (h:(idx n k i)[j]? =some x):x<i:=by
 have:=List.mem_of_getElem? h
 simp only [idx,List.mem_filter,List.mem_range] at this
 exact this.1
theorem zcW {n:List Nat} {k c x:Nat} (h:xZ n k c=some x) (hk:1≤k):x<n.length:=by
 unfold xZ at h
 split at h
 · rename_i hr
   have hl:=jf n k hk
   have hj:c-fst n k<(idx n k n.length).length:=by omega
   have hx:(idx n k n.length).getD (c-fst n k) 0=x:=Option.some.inj h
   rw [List.getD,List.getElem?_eq_getElem hj] at hx
   exact zeL n k n.length (c-fst n k) (by rw [List.getElem?_eq_getElem hj]; exact congrArg some hx)
 · cases h
theorem zai (n:List Nat) (s:ByteArray) (f k a c:Nat) (hk:1≤k) {x:Nat} (h:(xK n s f k a c).1=some x):x<n.length:=by
 induction f generalizing k a c with
 | zero=>cases h
 | succ f ih =>
   by_cases h1:a<8*s.size
   · cases hx:xZ n k (2*c+zx s a 1) with
     | some y=>rw [qV h1 hx] at h; cases h; exact zcW hx hk
     | none=>rw [qR h1 hx] at h; exact ih _ _ _ (by omega) h
   · rw [jG h1] at h; cases h
theorem kr (l:List Int) (s:ByteArray) (a:Nat) (ha:a≤8*s.size):(∃ x a',x<l.length∧a'≤8*s.size∧a≤a'∧yg l s a = .ok (x,a')) ∨ ∃ c,(c=2∨c=3)∧yg l s a = .error c:=by
 unfold yg
 split
 · exact .inr ⟨2,.inl rfl,rfl⟩
 · have hle:=zeh (zi l) s 15 1 a 0 ha
   have hlt:=fun x=>@zai (zi l) s 15 1 a 0 (by omega) x
   have e:nxt (zi l) s a false=xK (zi l) s 15 1 a 0:=rfl
   rw [e]
   generalize xK (zi l) s 15 1 a 0=rr at *
   obtain ⟨o,a',bad⟩:=rr
   cases o with
   | some x=>exact .inl ⟨x,a',by have:=hlt x rfl; rwa [yD] at this,hle.2.1,hle.1,rfl⟩
   | none=>cases bad with
     | true=>exact .inr ⟨3,.inr rfl,rfl⟩
     | false=>exact .inr ⟨2,.inl rfl,rfl⟩
theorem Wu (s:ByteArray) (k:Nat) (L:List Nat) (a:Nat) (ha:a≤8*s.size) (hk:k≤18) (hL : ∀ x∈L,x≤15) :
 (∃ n v a',1≤n∧n≤200∧v≤15∧a'≤8*s.size∧xI s k L a = .ok ((n,v),a')) ∨ ∃ c,(c=2∨c=3)∧xI s k L a = .error c:=by
 unfold xI
 split
 · unfold xf
   split
   · split
     · exact .inr ⟨2,.inl rfl,rfl⟩
     · rename_i hL0
       rcases zB s a 2 with ⟨t,ht,hta,h⟩ | h
       · rw [h]; refine .inl ⟨3+t,L.getLastD 0,a+2,by omega,by omega,?_,hta,rfl⟩
         rw [List.getLastD_eq_getLast?,List.getLast?_eq_some_getLast hL0]
         exact hL _ (List.getLast_mem hL0)
       · rw [h]; exact .inr ⟨3,.inr rfl,rfl⟩
   · split
     · rcases zB s a 3 with ⟨t,ht,hta,h⟩ | h
       · rw [h]; exact .inl ⟨3+t,0,a+3,by omega,by omega,by omega,hta,rfl⟩
       · rw [h]; exact .inr ⟨3,.inr rfl,rfl⟩
     · rcases zB s a 7 with ⟨t,ht,hta,h⟩ | h
       · rw [h]; exact .inl ⟨11+t,0,a+7,by omega,by omega,by omega,hta,rfl⟩
       · rw [h]; exact .inr ⟨3,.inr rfl,rfl⟩
 · exact .inl ⟨1,k,a,by omega,by omega,by omega,ha,rfl⟩
def zdJ (w:World) (b:Nat) (s:ByteArray) (r:Except Nat (List Nat×Nat)) (e:Ending) (w':World):Prop :=
 match r with
 | .ok (L,a') => ∃ v,e = .returned v∧Row w' 3 1 v L.length (zy L)∧RdAt w' b 268 s a' false∧Upd [b] w w' ∧ ∀ k,v.ownBlock=some k→w.heap.size≤k
 | .error c=>e = .panicked [{ v := .iface 39 (.int .i64 (c:Nat)),recovered:=false }]∧Upd [b] w w'
def KK (w0:World) (b:Nat) (s:ByteArray) (L:List Nat) (v:Value) (a:Nat) (wr:World):Prop :=
 Row wr 3 1 v L.length (zy L)∧RdAt wr b 268 s a false∧Upd [b] w0 wr∧(∀ k,v.ownBlock=some k→w0.heap.size≤k) ∧ ∀ x∈L,x≤15
set_option maxRecDepth 100000 in
set_option maxHeartbeats 3200000 in
theorem zdY (b many:Nat) (dv:Value) (l:List Int) (w:World) (s:ByteArray) (a:Nat) (hR:RdAt w b 268 s a false) (hs:s.size≤1099511627776) (hD:DecFor w dv l b) (hl:l.length≤19) (hm:many≤1000) :
 Calls Tryz.prog 250 #[.agg #[.pointer (some ⟨b,0,none⟩)],dv,.int .i64 (many:Nat)] w
  (zdJ w b s (xU l s many many [] a)):=by
 have hblt:=hR.1.lt
 have hU0:Upd [] w (w.alloc (.cells #[.pointer (some ⟨b,0,none⟩)] 255)):=(Upd.refl [] w).alloc _
 have hP:=(Blk.new w [.pointer (some ⟨b,0,none⟩)] 255)
 have hR0:=hR.upd hU0 (by simp)
 have hU0b:Upd [b] w (w.alloc (.cells #[.pointer (some ⟨b,0,none⟩)] 255)):=hU0.mono (by simp)
 have hD0:DecFor (w.alloc (.cells #[.pointer (some ⟨b,0,none⟩)] 255)) dv l b:=hD.upd hU0b
 have hsz0:(w.alloc (.cells #[.pointer (some ⟨b,0,none⟩)] 255)).heap.size=w.heap.size+1:=by simp
 obtain ⟨i0,hi0,hz0,hz1,hz2⟩:=info_parts jN
 go_enter Tryz.func250,Tryz.ntmps250
 go_wp2
 have hRel0:KK (w.alloc (.cells #[.pointer (some ⟨b,0,none⟩)] 255)) b s [] (.slice none 0 0) a (w.alloc (.cells #[.pointer (some ⟨b,0,none⟩)] 255)) :=
  ⟨Row.nil _ _ _,hR0,.refl _ _,by simp [Value.ownBlock],by simp⟩
 have hU0b':=Lib.hid hU0b
 clear hR hD hR0 hU0 hU0b
 generalize w.alloc (.cells #[.pointer (some ⟨b,0,none⟩)] 255)=w0 at *
 go_loopg [6] many (fun g s6 wr => ∃ L f a',L.length≤many∧g=many-L.length∧many≤f+L.length∧xU l s many many [] a=xU l s many f L a'∧KK w0 b s L s6 a' wr)
 case atStart=>exact ⟨[],many,a,by simp,by simp,by simp,rfl,hRel0⟩
 case round =>
  obtain ⟨L,f,a',hLm,rfl,hf,hrow,hRow,hRd,hU,hfr,h15⟩:=hrel
  clear hRel0
  obtain ⟨va,vc,rfl⟩:=hRow.form
  by_cases hc:L.length<many
  · have hcz:(L.length:Int)<(many:Int):=by omega
    obtain ⟨f,rfl⟩ : ∃ f',f=f'+1:=⟨f-1,by omega⟩
    have hstep:xU l s many (f+1) L a'=match yg l s a' with
     | .error c => .error c
     | .ok r =>
       match xI s r.1 L r.2 with
       | .error c => .error c
       | .ok q=>if q.1.1≤many-L.length then xU l s many f (L++List.replicate q.1.1 q.1.2) q.2 else .error 2:=by
     simp only [xU]; rw [if_pos hc]
    have c0:=(hP.upd hU (by simp; omega)).cell 0 rfl
    rcases kr l s a' hRd.2 with ⟨x,a1,hx,ha1,_,hn⟩ | ⟨c,_,hn⟩
    · rw [hn] at hstep
      have HN:=Lib.hid (Qf hRd hs (hD0.upd hU) hn)
      have HROW:=Lib.hid (hrow.trans hstep)
      clear hrow hstep hn
      have HONE:=Lib.hid (Wu s x L a1 ha1 (by omega) h15)
      go_wp2_with fail
      refine HN.out.mono ?_
      rintro e w4 ⟨rfl,hR4,hU4⟩
      have hUw4:=hU.then hU4
      have hRow4:=hRow.upd hU4 (fun k hk hm=>by have:=hfr k hk; simp at hm; omega)
      have c4:=(hP.upd hUw4 (by simp; omega)).cell 0 rfl
      have hvb:(Value.slice va L.length vc).ownBlock≠some b:=fun h=>by have:=hfr b h; omega
      rcases HONE.out with ⟨n,k,a2,hn1,hn2,hk15,ha2,hone⟩ | ⟨c,_,hone⟩
      · have hrow2:=HROW.out
        rw [hone] at hrow2
        have HROW2:=Lib.hid hrow2
        have HONE2:=Lib.hid hone
        clear hone hrow2 HROW HONE
        go_upto_if 17 with fail
        go_cut [7,8,18,19,20,21,22,23,24] (fun s7 s8 s18 s19 s20 s21 s22 s23 s24 wx=>s7 = .int .i64 (n:Nat)∧s8 = .int .i64 (k:Nat)∧RdAt wx b 268 s a2 false∧Upd [b] w4 wx)
        case first =>
         by_cases hx15:15<x
         · have hxz:decide ((15:Int)<(x:Int))=true:=decide_eq_true (by omega)
           have ha:=Xn b x _ L w4 s a1 hR4 hs hRow4 hvb (by omega) h15 (by omega)
           have hone':xf s x L a1 = .ok ((n,k),a2):=by rw [← HONE2.out]; unfold xI; rw [if_pos hx15]
           rw [hone'] at ha
           have HA:=Lib.hid ha
           clear ha hone'
           go_wp2_with fail
           refine HA.out.mono ?_
           rintro e w5 ⟨rfl,hR5,hU5⟩
           go_wp2_with fail
           go_meet
           exact ⟨rfl,rfl,hR5,hU5⟩
         · have hxz:decide ((15:Int)<(x:Int))=false:=decide_eq_false (by omega)
           have hone':xI s x L a1 = .ok ((1,x),a1):=by unfold xI; rw [if_neg hx15]
           rw [HONE2.out] at hone'
           cases hone'
           go_wp2
           go_meet
           exact ⟨rfl,rfl,hR4,.refl _ _⟩
        case rest =>
         obtain ⟨rfl,rfl,hR5,hU5⟩:=hcut
         have hU05:=hUw4.then hU5
         have hRow5:=hRow4.upd hU5 (fun k hk hm=>by have:=hfr k hk; simp at hm; omega)
         clear HN hRow hRow4 hU4 hU hR4 hRd hUw4 hU5 c4 c0
         by_cases hfit:n≤many-L.length
         · have hfz:decide ((n:Int)≤(many:Int)-(L.length:Int))=true:=decide_eq_true (by omega)
           have hE:=HROW2.out
           rw [if_pos hfit] at hE
           have HE:=Lib.hid hE
           clear hE
           go_wp2_with fail
           refine (yv _).mono ?_
           rintro e w6 ⟨rfl,rfl⟩
           go_wp2
           go_loopg [6,33] n (fun g s6 s33 wx => ∃ j,j≤n∧g=n-j∧s33 = .int .i64 (j:Nat)∧KK w0 b s (L++List.replicate j k) s6 a2 wx)
           case atStart=>exact ⟨0,by omega,rfl,rfl,by simpa using hRow5,hR5,hU05,hfr,by simpa using h15⟩
           case round =>
            obtain ⟨j,hjn,rfl,rfl,hRow6,hR6,hU6,hfr6,h156⟩:=hrel
            clear hRow5 hR5 hU05 hfr
            by_cases hcj:j<n
            · have hcz2:(j:Int)<(n:Int):=by omega
              have hL6:(L++List.replicate j k).length≤2000:=by simp; omega
              have hsn:=Lib.hid (show L++List.replicate (j+1) k=(L++List.replicate j k)++[k] by rw [List.replicate_succ',List.append_assoc])
              generalize L++List.replicate j k=M at *
              go_wp2_with (at_builtin; refine zE _ rfl _ _ 25 rfl 3 i0 _ 1 8 Tryz.underlying25 hi0 hz0 hz1 hz2 rfl (by omega) _ M.length _ rfl (hRow6.alloc _) ⟨wr.heap.size,0,none⟩ 1 1 [_] rfl rfl (World.news_of_block (cs := #[_]) (t:=3) (fr:=(0,0)) (heap_alloc_new _ _)) (by simp [Value.oneCell']) (by unfold maxLen; omega) (by omega) ?_)
              intro v2 w7 hR7 hU7 hT7
              go_wp2
              go_roundg (n-(j+1))
              case measure=>omega
              case rel =>
               refine ⟨j+1,by omega,rfl,by go_num,?_,(hR6.upd ((Upd.refl [] _).alloc _) (by simp)).upd hU7 ?_,(hU6.alloc _).trans hU7 ?_,?_,?_⟩
               · rw [hsn.out,List.length_append,show zy (M++[k])=zy M++[.int .i64 (k:Int)] by simp [zy]]
                 exact hR7
               · intro hm
                 have:=hfr6 b (by simpa using hm)
                 omega
               · intro q hq; right; exact hfr6 q (by simpa using hq)
               · intro q hq
                 rcases hT7 with h | ⟨g,h1,h2⟩
                 · exact hfr6 q (by rw [← h]; exact hq)
                 · rw [h1] at hq; simp at hq h2; have:=hU6.size; omega
               · rw [hsn.out]
                 intro q hq
                 rcases List.mem_append.1 hq with h | h
                 · exact h156 q h
                 · simp at h; omega
            · have hcz2 : ¬ (j:Int)<(n:Int):=by omega
              have hj:j=n:=by omega
              subst hj
              go_wp2
              go_roundg (many-(L++List.replicate j k).length)
              case measure=>simp; omega
              case rel =>
               refine ⟨L++List.replicate j k,f,a2,by simp; omega,rfl,by simp; omega,HE.out,hRow6,hR6,hU6,hfr6,h156⟩
         · have hfz:decide ((n:Int)≤(many:Int)-(L.length:Int))=false:=decide_eq_false (by omega)
           have hE:=HROW2.out
           rw [if_neg hfit] at hE
           have HE:=Lib.hid hE
           clear hE
           go_wp2_with fail
           refine (yP _).mono ?_
           rintro e w6 ⟨rfl,rfl⟩
           go_wp2
           rw [HE.out]
           exact ⟨rfl,rfl,hU0b'.out.then hU05⟩
      · have hrow2:=HROW.out
        rw [hone] at hrow2
        have HE:=Lib.hid hrow2
        have hx15:15<x:=by
         apply Classical.byContradiction
         intro h
         unfold xI at hone
         rw [if_neg h] at hone
         cases hone
        have hxz:(15:Int)<(x:Int):=by omega
        have ha:=Xn b x _ L w4 s a1 hR4 hs hRow4 hvb (by omega) h15 (by omega)
        have hone':xf s x L a1 = .error c:=by rw [← hone]; unfold xI; rw [if_pos hx15]
        rw [hone'] at ha
        have HA:=Lib.hid ha
        clear ha hone hone' hrow2 HROW HONE
        go_wp2_with fail
        refine HA.out.mono ?_
        rintro e w5 ⟨rfl,hU5⟩
        go_wp2
        rw [HE.out]
        exact ⟨rfl,rfl,hU0b'.out.then (hUw4.then hU5)⟩
    · rw [hn] at hstep
      have HN:=Lib.hid (Jm hRd hs (hD0.upd hU) hn)
      have HE:=Lib.hid (hrow.trans hstep)
      clear hrow hstep hn
      generalize L.length=N at *
      go_wp2_with fail
      refine HN.out.mono ?_
      rintro e w4 ⟨rfl,hU4⟩
      go_wp2
      rw [HE.out]
      exact ⟨rfl,rfl,hU0b'.out.then (hU.then hU4)⟩
  · have hcz : ¬ (L.length:Int)<(many:Int):=by omega
    rw [Zg hc] at hrow
    have HE:=Lib.hid hrow
    clear hrow
    go_wp2
    go_returns
    rw [HE.out]
    exact ⟨_,rfl,hRow,hRd,hU0b'.out.then hU,fun k hk=>by have:=hfr k hk; omega⟩
end Go.Proofs.YtigjingielnaoaaGreatDoor
