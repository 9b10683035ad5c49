/- Package symbol: plain, and the walks of its scales. -/
import Derived.Lib.MinMax
import Derived.Test.YtfkcdnaghndgfaaGreatDoorQAA
import Derived.Test.YtfkcdnaghndgfaaGreatDoorQAD
import Derived.Test.YtfkcdnaghndgfaaGreatDoorQAF
import Derived.Test.YtfkcdnaghndgfaaGreatDoorQAE
set_option linter.unusedVariables false
set_option linter.unusedSimpArgs false
set_option linter.unusedSectionVars false
namespace Go.Proofs.YtfkcdnaghndgfaaGreatDoor
open Go.RowKit
def zE (G F M:Nat) (k:Int):Int:=if k<0∨(M:Int)≤k then -1 else if k<(F:Int) then 0 else (k-F)/G+1
def ji (B G F M:Nat):Nat→Nat
 | 0=>B
 | k+1=>ji B G F M k+2^(zE G F M (k:Nat)).toNat
def kZ (B G F M:Nat):Value := .agg #[.int .i64 (B:Nat),.int .i64 (G:Nat),.int .i64 (F:Nat),.int .i64 (M:Nat)]
set_option maxHeartbeats 1600000 in
theorem kQ (B G F M:Nat) (k:Int) (w:World) (hG:1≤G) (hG2:G≤100) (hF:F≤100) (hM:M≤100) :
 Calls Tryz.prog 199 #[kZ B G F M,.int .i64 k] w fun e w'=>e = .returned (.int .i64 (zE G F M k))∧Upd [] w w':=by
 unfold kZ
 have hU:=(Upd.refl [] w).alloc (.cells #[.int .i64 (B:Nat),.int .i64 (G:Nat),.int .i64 (F:Nat),.int .i64 (M:Nat)] 233)
 by_cases h0:k<0
 · have hs:=Lib.hid (show zE G F M k = -1 by unfold zE; rw [if_pos (.inl h0)])
   have h0f:decide (k<0)=true:=decide_eq_true h0
   go_enter Tryz.func199,Tryz.ntmps199
   go_wp2
   go_returns
   exact ⟨by rw [hs.out]; rfl,hU⟩
 · have h0f:decide (k<0)=false:=decide_eq_false h0
   have h00:0≤k:=by omega
   by_cases hm:(M:Int)≤k
   · have hs:=Lib.hid (show zE G F M k = -1 by unfold zE; rw [if_pos (.inr hm)])
     have hmf:decide ((M:Int)≤k)=true:=decide_eq_true hm
     go_enter Tryz.func199,Tryz.ntmps199
     go_wp2
     go_returns
     exact ⟨by rw [hs.out]; rfl,hU⟩
   · have hmf:decide ((M:Int)≤k)=false:=decide_eq_false hm
     have hkM:k<(M:Int):=by omega
     by_cases hf:k<(F:Int)
     · have hs:=Lib.hid (show zE G F M k=0 by unfold zE; rw [if_neg (by omega),if_pos hf])
       go_enter Tryz.func199,Tryz.ntmps199
       go_wp2
       go_returns
       exact ⟨by rw [hs.out]; rfl,hU⟩
     · have hs:=Lib.hid (show zE G F M k=(k-F)/G+1 by unfold zE; rw [if_neg (by omega),if_neg hf])
       have hGz : ¬ (G:Int)=0:=by omega
       have hkF:(F:Int)≤k:=by omega
       have hd:(k-(F:Int)).tdiv (G:Int)=(k-F)/G:=Int.tdiv_eq_ediv_of_nonneg (by omega)
       have hq1:0≤(k-(F:Int))/G:=Int.ediv_nonneg (by omega) (by omega)
       have hq2:(k-(F:Int))/G≤100:=Int.le_trans (Int.ediv_le_self _ (by omega)) (by omega)
       clear hf h0 hm
       go_enter Tryz.func199,Tryz.ntmps199
       go_wp2
       go_returns
       exact ⟨by rw [hs.out]; rfl,hU⟩
theorem VV (G F M k:Nat) (h:k<M):0≤zE G F M (k:Nat):=by
 unfold zE
 rw [if_neg (by omega)]
 split
 · omega
 · have:0≤((k:Int)-F)/G:=Int.ediv_nonneg (by omega) (by omega)
   omega
theorem zda (B G F M:Nat) (hb : ∀ j:Nat,j<M→zE G F M (j:Nat)≤13) (k:Nat) (hk:k≤M):ji B G F M k≤B+k*8192:=by
 induction k with
 | zero=>simp [ji]
 | succ k ih =>
   have h1:=hb k (by omega)
   have h2:2^(zE G F M (k:Nat)).toNat≤2^13:=Nat.pow_le_pow_right (by omega) (by omega)
   have:=ih (by omega)
   simp only [ji]; omega
set_option maxRecDepth 100000 in
set_option maxHeartbeats 1600000 in
theorem zae (B G F M k:Nat) (w:World) (hG:1≤G) (hG2:G≤100) (hF:F≤100) (hM:M≤100) (hB:B≤100) (hb : ∀ j:Nat,j<M→zE G F M (j:Nat)≤13) (hk:k≤M) :
 Calls Tryz.prog 214 #[kZ B G F M,.int .i64 (k:Nat)] w fun e w'=>e = .returned (.int .i64 (ji B G F M k:Nat))∧Upd [] w w':=by
 have HB:=Lib.hid (fun j w'=>kQ B G F M j w' hG hG2 hF hM)
 have HBD:=Lib.hid hb
 unfold kZ
 have hU:=(Upd.refl [] w).alloc (.cells #[.int .i64 (B:Nat),.int .i64 (G:Nat),.int .i64 (F:Nat),.int .i64 (M:Nat)] 233)
 have hP:=Blk.new w [.int .i64 (B:Nat),.int .i64 (G:Nat),.int .i64 (F:Nat),.int .i64 (M:Nat)] 233
 unfold kZ at HB
 clear hb
 go_enter Tryz.func214,Tryz.ntmps214
 go_wp2
 go_loopg [5,10] k (fun g s5 s10 wr => ∃ i,i≤k∧g=k-i∧s10 = .int .i64 (i:Nat)∧s5 = .int .i64 (ji B G F M i:Nat)∧Upd [] w wr∧Blk wr w.heap.size [.int .i64 (B:Nat),.int .i64 (G:Nat),.int .i64 (F:Nat),.int .i64 (M:Nat)] 233)
 case atStart=>exact ⟨0,by omega,rfl,rfl,rfl,hU,hP⟩
 case round =>
  obtain ⟨i,hi,rfl,rfl,rfl,hUr,hPr⟩:=hrel
  have hle:=zda B G F M HBD.out i (by omega)
  have hle2:i*8192≤100*8192:=Nat.mul_le_mul_right _ (by omega)
  clear hU hP
  by_cases hc:i<k
  · have hcz:(i:Int)<(k:Int):=by omega
    have hbi:=HB.out (i:Nat)
    have hnn:=VV G F M i (by omega)
    have hb13:=HBD.out i (by omega)
    have hst:=Lib.hid (show ji B G F M (i+1)=ji B G F M i+2^(zE G F M (i:Nat)).toNat by rfl)
    generalize ji B G F M i=q at *
    obtain ⟨t,ht⟩ : ∃ t:Nat,zE G F M (i:Nat)=(t:Int):=⟨(zE G F M (i:Nat)).toNat,by omega⟩
    rw [ht] at hbi hst hb13 hnn
    rw [Int.toNat_natCast] at hst
    have ht13:t≤13:=by omega
    have hp:2^t≤2^13:=Nat.pow_le_pow_right (by omega) ht13
    have HBI:=Lib.hid hbi
    clear hbi ht hb13
    go_wp2_with (refine zA rfl 233 _ rfl w.heap.size rfl 233 _ hPr _ Tryz.underlying233 rfl (by kernel_rfl) ?_)
    refine (HBI.out wr).mono ?_
    rintro e w1 ⟨rfl,hU1⟩
    go_wp2
    go_roundg (k-(i+1))
    case measure=>omega
    case rel =>
     refine ⟨i+1,by omega,rfl,by go_num,?_,hUr.then hU1,hPr.upd hU1 (by simp)⟩
     have e:(2:Int)^t=((2^t:Nat):Int):=by simp
     have e3:wrap64 ((2^t:Nat):Int)=((2^t:Nat):Int):=by
      clear e
      generalize 2^t=p at *
      exact IntWalk.wrap64_in _ (by omega)
     rw [hst.out,e,e3,← Int.natCast_add]
     clear e e3
     generalize 2^t=p at *
     rw [IntWalk.wrap64_in _ (by omega)]
  · have hik:i=k:=by omega
    have hcz : ¬ (i:Int)<(k:Int):=by omega
    subst hik
    generalize hq:ji B G F M i=q at *
    have HQ:=Lib.hid hq
    clear hq
    go_wp2
    go_returns
    exact ⟨by rw [HQ.out]; rfl,hUr⟩
def Qt (B G F M:Nat) (k more:Int):Option Nat:=if zE G F M k = -1∨more<0∨(2:Int)^(zE G F M k).toNat≤more then none else some (ji B G F M k.toNat+more.toNat)
def Yc (o:Option Nat):Value := .tuple #[.int .i64 (o.getD 0:Nat),.bool o.isSome]
end Go.Proofs.YtfkcdnaghndgfaaGreatDoor
namespace Go.Proofs.YtfkcdnaghndgfaaGreatDoor
open Go.RowKit
theorem Vy:(Tryz.prog.info? 233).map (·.size)=some 4:=by kernel_rfl
theorem VY (w:World):Calls Tryz.prog 187 #[] w fun e w'=>e = .returned (kZ 3 4 8 28)∧Upd [] w w':=by
 have hB:=Blk.new w [.int .i64 0,.int .i64 0,.int .i64 0,.int .i64 0] 233
 go_enter Tryz.func187,Tryz.ntmps187
 go_wp2_with (refine zt rfl 233 _ _ rfl w.heap.size rfl [.int .i64 3,.int .i64 4,.int .i64 8,.int .i64 28] rfl 233 _ hB (by kernel_rfl) rfl (by simp [Value.oneCell']) ?_; intro w2 hB3 hU2)
 exact bodyPost_ret (results_cell_row rfl _ _ _ _ _ _ _ rfl hB3 Tryz.underlying233 rfl (by rw [Vy]; rfl)) rfl ⟨rfl,((Upd.refl [] w).alloc _).trans hU2 (fun k hk=>by simp at hk; right; omega)⟩
theorem Ju (w:World):Calls Tryz.prog 189 #[] w fun e w'=>e = .returned (kZ 1 2 4 30)∧Upd [] w w':=by
 have hB:=Blk.new w [.int .i64 0,.int .i64 0,.int .i64 0,.int .i64 0] 233
 go_enter Tryz.func189,Tryz.ntmps189
 go_wp2_with (refine zt rfl 233 _ _ rfl w.heap.size rfl [.int .i64 1,.int .i64 2,.int .i64 4,.int .i64 30] rfl 233 _ hB (by kernel_rfl) rfl (by simp [Value.oneCell']) ?_; intro w2 hB3 hU2)
 exact bodyPost_ret (results_cell_row rfl _ _ _ _ _ _ _ rfl hB3 Tryz.underlying233 rfl (by rw [Vy]; rfl)) rfl ⟨rfl,((Upd.refl [] w).alloc _).trans hU2 (fun k hk=>by simp at hk; right; omega)⟩
def yA (n:Int):Int:=if n=285 then 0 else if n<257 then -1 else zE 4 8 28 (n-257)
def xA (n:Int):Int:=zE 2 4 30 n
theorem zh2 : ∀ j:Nat,j<28→zE 4 8 28 (j:Nat)≤13:=by
 have : ∀ j:Fin 28,zE 4 8 28 (j.val:Nat)≤13:=by decide
 exact fun j h=>this ⟨j,h⟩
theorem ziA : ∀ j:Nat,j<30→zE 2 4 30 (j:Nat)≤13:=by
 have : ∀ j:Fin 30,zE 2 4 30 (j.val:Nat)≤13:=by decide
 exact fun j h=>this ⟨j,h⟩
theorem Wf (n:Int) (w:World):Calls Tryz.prog 166 #[.int .i64 n] w fun e w'=>e = .returned (.int .i64 (xA n))∧Upd [] w w':=by
 go_enter Tryz.func166,Tryz.ntmps166
 go_wp2_with fail
 refine (Ju w).mono ?_
 rintro e w1 ⟨rfl,hU1⟩
 have HB:=Lib.hid (kQ 1 2 4 30 n w1 (by decide) (by decide) (by decide) (by decide))
 go_wp2_with fail
 refine HB.out.mono ?_
 rintro e w2 ⟨rfl,hU2⟩
 go_wp2
 go_returns
 exact ⟨rfl,hU1.then hU2⟩
theorem Kp (n:Nat) (w:World) (h9:n≤100000):Calls Tryz.prog 165 #[.int .i64 (n:Nat)] w fun e w'=>e = .returned (.int .i64 (yA n))∧Upd [] w w':=by
 by_cases h1:n=285
 · subst h1
   go_enter Tryz.func165,Tryz.ntmps165
   go_wp2
   go_returns
   exact ⟨rfl,.refl _ _⟩
 · have h1f:((n:Int)==285)=false:=by simp; omega
   by_cases h2:n<257
   · have h2f:decide ((n:Int)<257)=true:=decide_eq_true (by omega)
     have hl:=Lib.hid (show yA (n:Int) = -1 by unfold yA; rw [if_neg (by omega),if_pos (by omega)])
     go_enter Tryz.func165,Tryz.ntmps165
     go_wp2
     go_returns
     exact ⟨by rw [hl.out]; rfl,.refl _ _⟩
   · have h2f:decide ((n:Int)<257)=false:=decide_eq_false (by omega)
     have hl:=Lib.hid (show yA (n:Int)=zE 4 8 28 ((n:Int)-257) by unfold yA; rw [if_neg (by omega),if_neg (by omega)])
     go_enter Tryz.func165,Tryz.ntmps165
     go_wp2_with fail
     refine (VY w).mono ?_
     rintro e w1 ⟨rfl,hU1⟩
     have HB:=Lib.hid (kQ 3 4 8 28 ((n:Int)-257) w1 (by decide) (by decide) (by decide) (by decide))
     go_wp2_with fail
     refine HB.out.mono ?_
     rintro e w2 ⟨rfl,hU2⟩
     go_wp2
     go_returns
     exact ⟨by rw [hl.out]; rfl,hU1.then hU2⟩
def qn (n more:Int):Option Nat:=if n=285 then (if more=0 then some 258 else none) else if n<257 then none else
 match Qt 3 4 8 28 (n-257) more with
 | some v=>if 258≤v then none else some v
 | none=>none
end Go.Proofs.YtfkcdnaghndgfaaGreatDoor
namespace Go.Proofs.YtfkcdnaghndgfaaGreatDoor
open Go.RowKit
structure StAt (w:World) (x b:Nat) (v:Value) (s:ByteArray) (a:Nat) (out:List Nat) (most:Nat):Prop where
 blk:Blk w x [.pointer (some ⟨b,0,none⟩),v,.int .i64 (most:Nat)] 155
 row:Row w 5 1 v out.length (u8s out)
 rd:RdAt w b 194 s a false
 vx:v.ownBlock≠some x
 vb:v.ownBlock≠some b
 xb:x≠b
 le:out.length≤most
 cap:most≤65000
 lt : ∀ y∈out,y<256
end Go.Proofs.YtfkcdnaghndgfaaGreatDoor
namespace Go.Proofs.YtfkcdnaghndgfaaGreatDoor
open Go.RowKit
def yZ (far:Nat):Nat→List Nat→List Nat
 | 0,out=>out
 | n+1,out=>yZ far n (out++[out.getD (out.length-far) 0])
theorem JV (far n:Nat) (out:List Nat):(yZ far n out).length=out.length+n:=by
 induction n generalizing out with
 | zero=>rfl
 | succ n ih=>simp only [yZ,ih]; simp; omega
theorem ZY (far n:Nat) (out:List Nat):yZ far (n+1) out=yZ far n out++[(yZ far n out).getD ((yZ far n out).length-far) 0]:=by
 induction n generalizing out with
 | zero=>rfl
 | succ n ih=>rw [yZ,ih]; rfl
def qJ (most long:Nat) (out:List Nat) (code a:Nat) (r:Nat×Nat):Except Nat (List Nat×Nat) :=
 match Qt 1 2 4 30 (code:Nat) (r.1:Nat) with
 | none => .error 2
 | some far=>if far≤out.length then (if out.length+long≤most then .ok (yZ far long out,r.2) else .error 4) else .error 2
def xQ (s:ByteArray) (most long:Nat) (out:List Nat) (r:Nat×Nat):Except Nat (List Nat×Nat) :=
 if xA (r.1:Nat)<0 then .error 2 else zy s r.2 (xA (r.1:Nat)).toNat >>= qJ most long out r.1 r.2
def xO (l2:List Int) (s:ByteArray) (most sym:Nat) (out:List Nat) (r:Nat×Nat):Except Nat (List Nat×Nat) :=
 match qn (sym:Nat) (r.1:Nat) with
 | none => .error 2
 | some long=>yR l2 s r.2 >>= xQ s most long out
def YX (l2:List Int) (s:ByteArray) (most sym:Nat) (out:List Nat) (a:Nat):Except Nat (List Nat×Nat) :=
 if yA (sym:Nat)<0 then .error 2 else zy s a (yA (sym:Nat)).toNat >>= xO l2 s most sym out
def XF (x b:Nat) (v:Value):List Nat:=x::b::v.ownBlock.toList
theorem zf6 {n more:Int} {v:Nat} (h:qn n more=some v):v≤258:=by
 unfold qn at h
 split at h
 · split at h
   · cases h; omega
   · cases h
 · split at h
   · cases h
   · split at h
     · split at h
       · cases h
       · cases h; omega
     · cases h
theorem zhW (B G F M k:Nat):B≤ji B G F M k:=by
 induction k with
 | zero=>exact Nat.le_refl _
 | succ k ih=>exact Nat.le_trans ih (Nat.le_add_right _ _)
theorem zhw {B G F M:Nat} {k more:Int} {v:Nat} (h:Qt B G F M k more=some v):B≤v:=by
 unfold Qt at h
 split at h
 · cases h
 · cases h; have:=zhW B G F M k.toNat; omega
theorem StAt.read {w w':World} {x b:Nat} {v:Value} {s:ByteArray} {a a':Nat} {out:List Nat} {most:Nat} (h:StAt w x b v s a out most) (hU:Upd [b] w w') (hR:RdAt w' b 194 s a' false):StAt w' x b v s a' out most :=
 { h with blk:=h.blk.upd hU (by have:=h.xb; simpa using this),row:=Row.upd h.row hU (fun k hk hm=>by simp at hm; exact h.vb (by rw [hk,hm])),rd:=hR }
theorem StAt.pure {w w':World} {x b:Nat} {v:Value} {s:ByteArray} {a:Nat} {out:List Nat} {most:Nat} (h:StAt w x b v s a out most) (hU:Upd [] w w'):StAt w' x b v s a out most :=
 { h with blk:=h.blk.upd hU (by simp),row:=Row.upd h.row hU (by simp),rd:=h.rd.upd hU (by simp) }
theorem ziZ {w w':World} {x b:Nat} {v:Value} (h:Upd [b] w w'):Upd (XF x b v) w w':=h.mono (fun k hk => .inl (by simp at hk; simp [XF,hk]))
theorem StAt.push {wr wm w9:World} {x b:Nat} {v v9:Value} {s:ByteArray} {a:Nat} {out:List Nat} {most:Nat} (h:StAt wr x b v s a out most) (hm:Upd [] wr wm) {n:Nat} (ys:List Nat) (hR:Row w9 5 1 v9 n (u8s out++u8s ys)) (hU:Upd v.ownBlock.toList wm w9) (hT:Later wm v v9) (hle:out.length+ys.length≤most) (hlt : ∀ y∈ys,y<256) :
 StAt (w9.setCell ⟨x,1,none⟩ v9) x b v9 s a (out++ys) most∧Upd (XF x b v) wr (w9.setCell ⟨x,1,none⟩ v9)∧Later wr v v9:=by
 have hT':Later wr v v9:=hT.imp id fun ⟨g,h1,h2⟩=>⟨g,h1,Nat.le_trans hm.size h2⟩
 have hUw:Upd (XF x b v) wr w9:=(hm.mono (by simp)).then (hU.mono fun k hk => .inl (by simp [XF,hk]))
 have hx:x∉v.ownBlock.toList:=by have:=h.vx; simpa [eq_comm] using this
 have hb:b∉v.ownBlock.toList:=by have:=h.vb; simpa [eq_comm] using this
 have hxlt:=h.blk.lt
 have hblt:=h.rd.1.lt
 have hvx:=hT'.ne hxlt h.vx
 have hvb:=hT'.ne hblt h.vb
 have hn:n=(out++ys).length:=by have:=hR.len; simp [jI] at this ⊢; omega
 have hB9:=(h.blk.upd hm (by simp)).upd hU hx
 have hR':=(h.rd.upd hm (by simp)).upd hU hb
 refine ⟨⟨hB9.set 1 v9,?_,hR'.upd ((Upd.refl [x] w9).setCell (.inl (by simp)) v9) (by have:=h.xb; simp; omega),hvx,hvb,h.xb,by simpa using hle,h.cap,?_⟩,hUw.setCell (.inl (by simp [XF])) v9,hT'⟩
 · rw [vl,← hn]; exact hR.setFar v9 hvx
 · intro y hy
   rcases List.mem_append.1 hy with hy | hy
   · exact h.lt y hy
   · exact hlt y hy
end Go.Proofs.YtfkcdnaghndgfaaGreatDoor
namespace Go.Proofs.YtfkcdnaghndgfaaGreatDoor
open Go.RowKit
def xY (l2:List Int) (s:ByteArray) (most:Nat) (k:List Nat→Nat→Except Nat (List Nat×Nat)) (out:List Nat) (r:Nat×Nat):Except Nat (List Nat×Nat) :=
 if r.1=256 then .ok (out,r.2) else
  if r.1<256 then (if out.length+1≤most then k (out++[r.1]) r.2 else .error 4) else
   YX l2 s most r.1 out r.2 >>= fun q=>k q.1 q.2
def xH (l1 l2:List Int) (s:ByteArray) (most:Nat):Nat→List Nat→Nat→Except Nat (List Nat×Nat)
 | 0,_,_ => .error 0
 | g+1,out,a=>yR l1 s a >>= xY l2 s most (xH l1 l2 s most g) out
theorem zfH {n:List Nat} {s:ByteArray} {f k a c x:Nat} (h:(qV n s f k a c).1=some x):a<(qV n s f k a c).2.1:=by
 induction f generalizing k a c with
 | zero=>cases h
 | succ f ih =>
   by_cases h1:a<8*s.size
   · cases hx:jg n k (2*c+zW s a 1) with
     | some y=>rw [kE h1 hx]; exact Nat.lt_succ_self a
     | none=>rw [kr h1 hx] at h ⊢; exact Nat.lt_trans (Nat.lt_succ_self a) (ih h)
   · rw [JS h1] at h; cases h
theorem kC {l:List Int} {s:ByteArray} {a x a':Nat} (h:yR l s a = .ok (x,a')):a<a':=by
 unfold yR at h
 split at h
 · cases h
 · have hA:=fun x=>@zfH (zf l) s 15 1 a 0 x
   have e:nxt (zf l) s a false=qV (zf l) s 15 1 a 0:=rfl
   rw [e] at h
   generalize qV (zf l) s 15 1 a 0=rr at *
   obtain ⟨o,a2,bad⟩:=rr
   cases o with
   | some y=>have:=hA y rfl; cases h; exact this
   | none=>cases bad<;>cases h
theorem yB {s:ByteArray} {a n v a':Nat} (h:zy s a n = .ok (v,a')):a≤a':=by
 unfold zy at h
 split at h
 · cases h; omega
 · cases h
theorem zdF {l2:List Int} {s:ByteArray} {most sym:Nat} {out out':List Nat} {a a':Nat} (h:YX l2 s most sym out a = .ok (out',a')):a≤a':=by
 unfold YX at h
 split at h
 · cases h
 · cases h1:zy s a (yA (sym:Nat)).toNat with
   | error c=>rw [h1] at h; cases h
   | ok r1 =>
     rw [h1] at h
     have h1':=yB h1
     replace h:xO l2 s most sym out r1 = .ok (out',a'):=h
     unfold xO at h
     split at h
     · cases h
     · cases h2:yR l2 s r1.2 with
       | error c=>rw [h2] at h; cases h
       | ok r2 =>
         rw [h2] at h
         have h2':=kC h2
         rename_i long _
         replace h:xQ s most long out r2 = .ok (out',a'):=h
         unfold xQ at h
         split at h
         · cases h
         · cases h3:zy s r2.2 (xA (r2.1:Nat)).toNat with
           | error c=>rw [h3] at h; cases h
           | ok r3 =>
             rw [h3] at h
             have h3':=yB h3
             replace h:qJ most long out r2.1 r2.2 r3 = .ok (out',a'):=h
             unfold qJ at h
             split at h
             · cases h
             · split at h
               · split at h
                 · cases h; omega
                 · cases h
               · cases h
def DecNew (w0 w:World) (dv:Value) (l:List Int):Prop :=
 (dv = .pointer none∧(zi l=3∨zi l=0))∨(zi l≠3∧zi l≠0 ∧ ∃ d v,dv = .pointer (some ⟨d,0,none⟩)∧DcAt w d v (zf l)∧w0.heap.size≤d ∧ ∀ k,v.ownBlock=some k→w0.heap.size≤k)
theorem DecNew.upd {w0 w w':World} {dv:Value} {l:List Int} {fp:List Nat} (h:DecNew w0 w dv l) (hU:Upd fp w w') (hf : ∀ k∈fp,k<w0.heap.size):DecNew w0 w' dv l:=by
 rcases h with h | ⟨h1,h2,d,v,e,hD,h3,h4⟩
 · exact .inl h
 · exact .inr ⟨h1,h2,d,v,e,hD.upd hU (fun hm=>by have:=hf _ hm; omega) (fun k hk hm=>by have:=hf _ hm; have:=h4 k hk; omega),h3,h4⟩
theorem DecNew.for {w0 w:World} {dv:Value} {l:List Int} {b:Nat} (h:DecNew w0 w dv l) (hb:b<w0.heap.size):DecFor w dv l b:=by
 rcases h with h | ⟨h1,h2,d,v,e,hD,h3,h4⟩
 · exact .inl h
 · exact .inr ⟨h1,h2,d,v,e,hD,by omega,fun hm=>by have:=h4 b hm; omega⟩
theorem DecNew.back {w0 w1 w:World} {dv:Value} {l:List Int} (h:DecNew w1 w dv l) (hs:w0.heap.size≤w1.heap.size):DecNew w0 w dv l:=by
 rcases h with h | ⟨h1,h2,d,v,e,hD,h3,h4⟩
 · exact .inl h
 · exact .inr ⟨h1,h2,d,v,e,hD,by omega,fun k hm=>by have:=h4 k hm; omega⟩
def SymsRel (w0 w:World) (x b:Nat) (v0 v:Value) (s:ByteArray) (a:Nat) (out:List Nat) (most:Nat):Prop :=
 StAt w x b v s a out most∧Upd (XF x b v0) w0 w∧Later w0 v0 v
theorem SymsRel.next {w0 w w':World} {x b:Nat} {v0 v v':Value} {s:ByteArray} {a a':Nat} {out out':List Nat} {most:Nat} (h:SymsRel w0 w x b v0 v s a out most) (hS:StAt w' x b v' s a' out' most) (hU:Upd (XF x b v) w w') (hT:Later w v v'):SymsRel w0 w' x b v0 v' s a' out' most :=
 ⟨hS,h.2.1.trans hU (fun k hk=>by
  simp only [XF,List.mem_cons] at hk ⊢
  rcases hk with hk | hk | hk
  · exact .inl (.inl hk)
  · exact .inl (.inr (.inl hk))
  · exact (h.2.2.fp k hk).imp (fun h => .inr (.inr h)) id),h.2.2.trans h.2.1.size hT⟩
theorem SymsRel.read {w0 w w':World} {x b:Nat} {v0 v:Value} {s:ByteArray} {a a':Nat} {out:List Nat} {most:Nat} (h:SymsRel w0 w x b v0 v s a out most) (hU:Upd [b] w w') (hR:RdAt w' b 194 s a' false):SymsRel w0 w' x b v0 v s a' out most :=
 ⟨h.1.read hU hR,h.2.1.then (ziZ hU),h.2.2⟩
end Go.Proofs.YtfkcdnaghndgfaaGreatDoor
namespace Go.Proofs.YtfkcdnaghndgfaaGreatDoor
open Go.RowKit
def ql (s:ByteArray) (most:Nat) (out:List Nat) (n:Nat) (r:Nat×Nat):Except Nat (List Nat×Nat) :=
 if r.1=65535-n then
  (if qd s r.2 false (n:Nat)=true then .error 3 else if out.length+n≤most then .ok (out++za (qv s r.2 false (n:Nat)),ve s r.2 false (n:Nat)) else .error 4)
 else .error 2
def JB (s:ByteArray) (most:Nat) (out:List Nat) (a:Nat):Except Nat (List Nat×Nat) :=
 zy s (Jq a false) 16 >>= fun r=>zy s r.2 16 >>= ql s most out r.1
end Go.Proofs.YtfkcdnaghndgfaaGreatDoor
namespace Go.Proofs.YtfkcdnaghndgfaaGreatDoor
open Go.RowKit
def zs (n:List Nat) (i:Nat):List Bool:=low (n.getD i 0) (yM (zG n i) (n.getD i 0))
def zgX (n:List Nat) (s:Int):Bool:=decide (0≤s)&&decide (s<(n.length:Int))&&decide (n.getD s.toNat 0≠0)
def Kk (n:List Nat) (m:List Int):Bool:=m.all (zgX n)
def yS (n:List Nat) (m:List Int):List Bool:=m.flatMap fun s=>zs n s.toNat
theorem zJ (n:List Nat) (i:Nat):(zs n i).length=n.getD i 0:=by rw [zs,ze]
theorem Vt {n:List Nat} {m:List Int} {i:Nat} (h:i<m.length) (h1:Kk n m=true):zgX n m[i]=true:=by
 unfold Kk at h1
 rw [List.all_eq_true] at h1
 exact h1 _ (List.getElem_mem h)
theorem KD (n:List Nat) {m:List Int} {i:Nat} (h:i<m.length):yS n (m.take (i+1))=yS n (m.take i)++zs n (m[i]).toNat:=by
 unfold yS; rw [take_snoc' m i h,List.flatMap_append,List.flatMap_cons,List.flatMap_nil,List.append_nil]
theorem zcv (n:List Nat) (m:List Int) (h : ∀ x∈n,x≤15):(yS n m).length≤15*m.length:=by
 induction m with
 | nil=>simp [yS]
 | cons x m ih =>
   have e:yS n (x::m)=zs n x.toNat++yS n m:=rfl
   rw [e,List.length_append,zJ,List.length_cons]
   have:n.getD x.toNat 0≤15:=by
    rw [List.getD]
    by_cases hx:x.toNat<n.length
    · rw [List.getElem?_eq_getElem hx]; exact h _ (List.getElem_mem hx)
    · rw [List.getElem?_eq_none (by omega)]; simp
   omega
def zdw (w:World) (b:Nat) (v:Value) (L:List Bool) (ok:Bool) (bits:List Bool) (e:Ending) (w':World):Prop :=
 e = .returned (.bool ok) ∧ ∃ v',WrAt w' b v' (L++bits) ((L++bits).length/8)∧Upd (ya b v) w w'∧Later w v v'
theorem zbu (n:List Nat) (i:Nat) (h:i<n.length):(je n)[i]? =some (zG n i):=by simp [je,h]
theorem Vz (n:List Nat) (hps:qO n 16≤32768) (h15 : ∀ x∈n,x≤15) (i:Nat) (h:i<n.length):zG n i<32768∧zG n i<2^(n.getD i 0):=by
 have hle:n.getD i 0≤15:=by rw [List.getD,List.getElem?_eq_getElem h]; exact h15 _ (List.getElem_mem h)
 have hb:=Ql n hps (n.getD i 0) hle
 have hp:2^(n.getD i 0)≤2^15:=Nat.pow_le_pow_right (by omega) hle
 unfold zG
 by_cases h0:n.getD i 0=0
 · rw [if_pos h0,h0]; omega
 · rw [if_neg h0]
   have hc:=Ze n i _ h rfl
   have hcn:cnt n (n.getD i 0)=n.count (n.getD i 0):=by unfold cnt; rw [if_neg h0]
   omega
set_option maxRecDepth 100000 in
set_option maxHeartbeats 3200000 in
theorem zdT (b:Nat) (v:Value) (L:List Bool) (x y:Option Addr) (cx cy:Nat) (l m:List Int) (w:World) (hm:m.length≤100000000) (hI : ∀ w',Upd (ya b v) w w'→IntsIn w' x l.length l) (hM : ∀ w',Upd (ya b v) w w'→IntsIn w' y m.length m)
 (hW:WrAt w b v L (L.length/8)) (hL:L.length≤1000000000000)
 (hk3:zi l≠3) (hmay:Kk (zf l) m=true) :
 Calls Tryz.prog 152 #[.pointer (some ⟨b,0,none⟩),.slice x l.length cx,.slice y m.length cy] w (zdw w b v L true (yS (zf l) m)):=by
 obtain ⟨hok,hps⟩:=xF hk3
 have HO:=Lib.hid hok
 have hnl:=yQ l
 have h300:=(zH hok).1
 have h15:=Lib.hid (kU hok)
 have hcl:=Lib.hid (fun i h=>Vz (zf l) hps h15.out i h)
 have hC:=zeM x l.length cx l w (by omega) (hI w (.refl _ _))
 have HI:=Lib.hid hI
 have HM:=Lib.hid hM
 have HK:=Lib.hid hk3
 have HY:=Lib.hid hmay
 have hwb:=hW.blk.lt
 have hwv:=hW.row.lt
 clear hI hM hok hps hk3 hmay
 go_enter Tryz.func152,Tryz.ntmps152
 go_wp2_with fail
 refine hC.mono ?_
 rintro e w1 ⟨hU1,⟨h3,_⟩ | ⟨h3,g,rfl,hg,hR⟩⟩
 · exact absurd h3 HK.out
 · clear h3
   have hUv:Upd (ya b v) w w1:=hU1.mono (by simp)
   have hW1:=hW.upd hU1 (by simp) (by simp)
   have hR1:=Lib.hid (fun w' (hU:Upd (ya b v) w1 w')=>Row.upd hR hU (fun k hk hmm=>by
    simp [Value.ownBlock] at hk
    simp only [ya,List.mem_cons] at hmm
    rcases hmm with h | h
    · omega
    · have:=hwv k (by simpa using h); omega))
   have hI1:=HI.out _ hUv
   have hM1:=HM.out _ hUv
   clear hR hW
   go_wp2
   go_loopg [16] m.length (fun g s16 wr => ∃ i,i≤m.length∧g=m.length-i∧s16 = .int .i64 (i:Nat)∧w1=wr)
   case atStart=>exact ⟨0,by omega,rfl,rfl,rfl⟩
   case round =>
    obtain ⟨i,hin,rfl,rfl,rfl⟩:=hrel
    by_cases hc:i<m.length
    · have hcz:(i:Int)<(m.length:Int):=by omega
      obtain ⟨bm,off,rfl,c0,r1,r2⟩:=hM1.cell i hc
      have hmb:=Vt hc HY.out
      simp only [zgX,Bool.and_eq_true,decide_eq_true_eq] at hmb
      generalize m[i]=s at *
      obtain ⟨S,rfl⟩ : ∃ S:Nat,s=(S:Int):=⟨s.toNat,by omega⟩
      have hSl:S<l.length:=by omega
      obtain ⟨bx,offx,rfl,d0,q1,q2⟩:=hI1.cell S hSl
      have hkk:=(zH HO.out).2 _ (List.getElem_mem hSl)
      obtain ⟨k,hk⟩ : ∃ k:Nat,l[S]=(k:Int):=⟨(l[S]).toNat,by omega⟩
      have hnd:(zf l).getD S 0=k:=by rw [List.getD,List.getElem?_eq_getElem (by omega)]; simp [zf,hk]
      rw [hk] at d0
      rw [Int.toNat_natCast,hnd] at hmb
      have hkf:((k:Int)==0)=false:=by simp; omega
      have hlf:decide ((l.length:Int)≤(S:Int))=false:=by simp; omega
      clear hmb hkk hk hnd q1 q2
      go_wp2
      go_roundg (m.length-(i+1))
      case measure=>omega
      case rel=>exact ⟨i+1,by omega,rfl,by go_num,rfl⟩
    · have hcz : ¬ (i:Int)<(m.length:Int):=by omega
      have hi:i=m.length:=by omega
      clear hi hc hin hI1 hM1
      go_wp2
      go_loopg [38] m.length (fun g s38 wr => ∃ j v',j≤m.length∧g=m.length-j∧s38 = .int .i64 (j:Nat)∧WrAt wr b v' (L++yS (zf l) (m.take j)) ((L++yS (zf l) (m.take j)).length/8)∧Upd (ya b v) w1 wr∧Later w1 v v')
      case atStart=>exact ⟨0,v,by omega,rfl,rfl,by simpa [yS] using hW1,.refl _ _,.refl _ _⟩
      case round =>
       obtain ⟨j,v',hjn,rfl,rfl,hWj,hUj,hTj⟩:=hrel
       clear hW1
       by_cases hcj:j<m.length
       · have hcz2:(j:Int)<(m.length:Int):=by omega
         have hUj2:Upd (ya b v) w wr:=hUv.then hUj
         obtain ⟨bm,off,rfl,c0,r1,r2⟩:=(HM.out _ hUj2).cell j hcj
         have hmb:=Vt hcj HY.out
         simp only [zgX,Bool.and_eq_true,decide_eq_true_eq] at hmb
         have hms:=KD (zf l) hcj
         have hlb:=zcv (zf l) (m.take j) h15.out
         have hlt:(m.take j).length≤j:=by simp; omega
         generalize m[j]=s at *
         obtain ⟨S,rfl⟩ : ∃ S:Nat,s=(S:Int):=⟨s.toNat,by omega⟩
         have hSl:S<l.length:=by omega
         obtain ⟨bx,offx,rfl,d0,q1,q2⟩:=(HI.out _ hUj2).cell S hSl
         have hkk:=(zH HO.out).2 _ (List.getElem_mem hSl)
         obtain ⟨k,hk⟩ : ∃ k:Nat,l[S]=(k:Int):=⟨(l[S]).toNat,by omega⟩
         have hnd:(zf l).getD S 0=k:=by rw [List.getD,List.getElem?_eq_getElem (by omega)]; simp [zf,hk]
         rw [hk] at d0 hkk
         have d2:=Row.cell (hR1.out _ hUj) S (vU _ _ _ (zbu (zf l) S (by omega)))
         have hcc:=hcl.out S (by omega)
         have hsb:zs (zf l) S=low k (yM (zG (zf l) S) k):=by unfold zs; rw [hnd]
         rw [Int.toNat_natCast,hsb] at hms
         rw [hnd] at hcc
         have hms2:=Lib.hid (show L++yS (zf l) (m.take (j+1))=(L++yS (zf l) (m.take j))++low k (yM (zG (zf l) S) k) by rw [hms,List.append_assoc])
         have htn:=zaN (zG (zf l) S) k
         have hlen2:(L++yS (zf l) (m.take j)).length≤1099511627776:=by rw [List.length_append]; omega
         clear hmb hk hnd q1 q2 hms hsb hlb hlt r1 r2
         generalize L++yS (zf l) (m.take j)=M at *
         have hTu:=zcb (zG (zf l) S) k (zG (zf l) S:Nat) (k:Nat) wr.drew rfl (by omega) (by omega) (Lib.hid (by omega))
         have hBi:=ym b (yM (zG (zf l) S) k) (yM (zG (zf l) S) k:Nat) (k:Nat) k wr.drew v' M rfl (Nat.lt_of_lt_of_le htn (Nat.le_trans (Nat.pow_le_pow_right (by omega) (show k≤15 by omega)) (by decide))) (hWj.upd ((Upd.refl [] _).drew) (by simp) (by simp)) (by omega) (by omega) (Lib.hid (by omega))
         have HTu:=Lib.hid hTu
         have HBi:=Lib.hid hBi
         have htb:yM (zG (zf l) S) k<4294967296:=Nat.lt_of_lt_of_le htn (Nat.le_trans (Nat.pow_le_pow_right (by omega) (show k≤15 by omega)) (by decide))
         clear hTu hBi htn
         generalize yM (zG (zf l) S) k=t at *
         generalize zG (zf l) S=c at *
         go_wp2
         refine wp_region_still_tail 14 (by kernel_rfl) (by kernel_rfl) ?_
         simp only [List.take_succ_cons,List.take_zero,List.drop_succ_cons,List.drop_zero]
         repeat still_step
         still_call (HTu.out.mono fun e w' ⟨he,hw⟩=>⟨he,hw.symm⟩)
         repeat still_step
         try refine wpStill_nil ?_
         change wpList _ _ _ _ _ wr.drew
         go_wp2_with fail
         refine HBi.out.mono ?_
         rintro e w3 ⟨rfl,v3,hW3,hU3,hT3⟩
         go_wp2
         go_roundg (m.length-(j+1))
         case measure=>omega
         case rel =>
          refine ⟨j+1,v3,by omega,rfl,by go_num,by rw [hms2.out]; exact hW3,(hUj.drew).trans hU3 ?_,hTj.trans hUj.size hT3⟩
          intro q hq
          simp only [ya,List.mem_cons] at hq ⊢
          rcases hq with h | h
          · exact .inl (.inl h)
          · exact (hTj.fp q h).imp .inr id
       · have hj:j=m.length:=by omega
         have hcz2 : ¬ (j:Int)<(m.length:Int):=by omega
         rw [hj,List.take_length] at hWj
         clear hj
         go_wp2
         go_returns
         refine ⟨rfl,v',hWj,hUv.then hUj,?_⟩
         exact hTj.imp id fun ⟨g',h1,h2⟩=>⟨g',h1,Nat.le_trans hU1.size h2⟩
end Go.Proofs.YtfkcdnaghndgfaaGreatDoor
