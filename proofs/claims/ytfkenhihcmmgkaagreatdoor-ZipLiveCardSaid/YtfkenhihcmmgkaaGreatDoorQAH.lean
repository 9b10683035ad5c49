/- Package symbol: plain, and the walks of its scales. -/
import Derived.Test.YtfkenhihcmmgkaaGreatDoorQAG
set_option linter.unusedVariables false
set_option linter.unusedSimpArgs false
set_option linter.unusedSectionVars false
set_option maxRecDepth 100000
set_option maxHeartbeats 12800000
namespace Go.Proofs.YtfkenhihcmmgkaaGreatDoor
open Go.RowKit
def zQ (G F M:Nat) (k:Int):Int:=if k<0∨(M:Int)≤k then -1 else if k<(F:Int) then 0 else (k-F)/G+1
def vM (B G F M:Nat):Nat→Nat
 | 0=>B
 | k+1=>vM B G F M k+2^(zQ G F M (k:Nat)).toNat
def jF (B G F M:Nat):Value := .agg #[.int .i64 (B:Nat),.int .i64 (G:Nat),.int .i64 (F:Nat),.int .i64 (M:Nat)]
theorem kP (B G F M:Nat) (k:Int) (w:World) (hG:1≤G) (hG2:G≤100) (hF:F≤100) (hM:M≤100) :
 Calls Tryz.prog 335 #[jF B G F M,.int .i64 k] w fun e w'=>e = .returned (.int .i64 (zQ G F M k))∧Upd [] w w':=by
 unfold jF;have hU:=(Upd.refl [] w).alloc (.cells #[.int .i64 (B:Nat),.int .i64 (G:Nat),.int .i64 (F:Nat),.int .i64 (M:Nat)] 367);by_cases h0:k<0
 · have hs:=Hi (show zQ G F M k = -1 by unfold zQ; rw [if_pos (.inl h0)]);have h0f:decide (k<0)=true:=decide_eq_true h0;go_enter Tryz.func335,Tryz.ntmps335;go_wp2;go_returns;exact ⟨by rw [hs.out]; rfl,hU⟩
 · have h0f:decide (k<0)=false:=decide_eq_false h0;have h00:0≤k:=(by omega);by_cases hm:(M:Int)≤k
   · have hs:=Hi (show zQ G F M k = -1 by unfold zQ; rw [if_pos (.inr hm)]);have hmf:decide ((M:Int)≤k)=true:=decide_eq_true hm;go_enter Tryz.func335,Tryz.ntmps335;go_wp2;go_returns;exact ⟨by rw [hs.out]; rfl,hU⟩
   · have hmf:decide ((M:Int)≤k)=false:=decide_eq_false hm;have hkM:k<(M:Int):=(by omega);by_cases hf:k<(F:Int)
     · have hs:=Hi (show zQ G F M k=0 by unfold zQ; rw [if_neg (by omega),if_pos hf]);go_enter Tryz.func335,Tryz.ntmps335;go_wp2;go_returns;exact ⟨by rw [hs.out]; rfl,hU⟩
     · have hs:=Hi (show zQ G F M k=(k-F)/G+1 by unfold zQ; rw [if_neg (by omega),if_neg hf]);have hGz : ¬ (G:Int)=0:=(by omega);have hkF:(F:Int)≤k:=(by omega);have hd:(k-(F:Int)).tdiv (G:Int)=(k-F)/G:=Int.tdiv_eq_ediv_of_nonneg (by omega);have hq1:0≤(k-(F:Int))/G:=Int.ediv_nonneg (by omega) (by omega);have hq2:(k-(F:Int))/G≤100:=Int.le_trans (Int.ediv_le_self _ (by omega)) (by omega);clear hf h0 hm;go_enter Tryz.func335,Tryz.ntmps335;go_wp2;go_returns;exact ⟨by rw [hs.out]; rfl,hU⟩
theorem VK (G F M k:Nat) (h:k<M):0≤zQ G F M (k:Nat):=by
 unfold zQ;rw [if_neg (by omega)];split
 · omega
 · have:0≤((k:Int)-F)/G:=Int.ediv_nonneg (by omega) (by omega);omega
theorem zdG (B G F M:Nat) (hb : ∀ j:Nat,j<M→zQ G F M (j:Nat)≤13) (k:Nat) (hk:k≤M):vM B G F M k≤B+k*8192:=by
 induction k with
 | zero=>simp [vM]
 | succ k ih =>
   have h1:=hb k (by omega);have h2:2^(zQ G F M (k:Nat)).toNat≤2^13:=Nat.pow_le_pow_right (by omega) (by omega);have:=ih (by omega);simp only [vM]; omega
theorem zag (B G F M k:Nat) (w:World) (hG:1≤G) (hG2:G≤100) (hF:F≤100) (hM:M≤100) (hB:B≤100) (hb : ∀ j:Nat,j<M→zQ G F M (j:Nat)≤13) (hk:k≤M) :
 Calls Tryz.prog 342 #[jF B G F M,.int .i64 (k:Nat)] w fun e w'=>e = .returned (.int .i64 (vM B G F M k:Nat))∧Upd [] w w':=by
 have HB:=Hi (fun j w'=>kP B G F M j w' hG hG2 hF hM);have HBD:=Hi hb;unfold jF;have hU:=(Upd.refl [] w).alloc (.cells #[.int .i64 (B:Nat),.int .i64 (G:Nat),.int .i64 (F:Nat),.int .i64 (M:Nat)] 367);have hP:=Blk.new w [.int .i64 (B:Nat),.int .i64 (G:Nat),.int .i64 (F:Nat),.int .i64 (M:Nat)] 367;unfold jF at HB;clear hb;go_enter Tryz.func342,Tryz.ntmps342;go_wp2;go_loopg [5,10] k (fun g s5 s10 wr => ∃ i,i≤k∧g=k-i∧s10 = .int .i64 (i:Nat)∧s5 = .int .i64 (vM B G F M i:Nat)∧Upd [] w wr∧Blk wr w.heap.size [.int .i64 (B:Nat),.int .i64 (G:Nat),.int .i64 (F:Nat),.int .i64 (M:Nat)] 367)
 case atStart=>exact ⟨0,by omega,rfl,rfl,rfl,hU,hP⟩
 case round =>
  obtain ⟨i,hi,rfl,rfl,rfl,hUr,hPr⟩:=hrel;have hle:=zdG B G F M HBD.out i (by omega);have hle2:i*8192≤100*8192:=Nat.mul_le_mul_right _ (by omega);clear hU hP;by_cases hc:i<k
  · have hcz:(i:Int)<(k:Int):=(by omega);have hbi:=HB.out (i:Nat);have hnn:=VK G F M i (by omega);have hb13:=HBD.out i (by omega);have hst:=Hi (show vM B G F M (i+1)=vM B G F M i+2^(zQ G F M (i:Nat)).toNat by rfl);generalize vM B G F M i=q at *;obtain ⟨t,ht⟩ : ∃ t:Nat,zQ G F M (i:Nat)=(t:Int):=⟨(zQ G F M (i:Nat)).toNat,by omega⟩;rw [ht] at hbi hst hb13 hnn;rw [Int.toNat_natCast] at hst;have ht13:t≤13:=(by omega);have hp:2^t≤2^13:=Nat.pow_le_pow_right (by omega) ht13;have HBI:=Hi hbi;clear hbi ht hb13;(go_wp2_with (refine zx rfl 367 _ rfl w.heap.size rfl 367 _ hPr _ Tryz.underlying367 rfl (by kernel_rfl) ?_));refine (HBI.out wr).mono ?_;rintro e w1 ⟨rfl,hU1⟩;go_wp2;go_roundg (k-(i+1))
    case measure=>omega
    case rel =>
     refine ⟨i+1,by omega,rfl,by go_num,?_,hUr.then hU1,hPr.upd hU1 (by simp)⟩;have e:(2:Int)^t=((2^t:Nat):Int):=(by simp);have e3:wrap64 ((2^t:Nat):Int)=((2^t:Nat):Int):=by
      clear e;generalize 2^t=p at *;exact IntWalk.wrap64_in _ (by omega)
     rw [hst.out,e,e3,← Int.natCast_add];clear e e3;generalize 2^t=p at *;rw [IntWalk.wrap64_in _ (by omega)]
  · have hik:i=k:=(by omega);have hcz : ¬ (i:Int)<(k:Int):=(by omega);subst hik;generalize hq:vM B G F M i=q at *;have HQ:=Hi hq;clear hq;go_wp2;go_returns;exact ⟨by rw [HQ.out]; rfl,hUr⟩
def jS (B G F M:Nat) (k more:Int):Option Nat:=if zQ G F M k = -1∨more<0∨(2:Int)^(zQ G F M k).toNat≤more then none else some (vM B G F M k.toNat+more.toNat)
def jn (o:Option Nat):Value := .tuple #[.int .i64 (o.getD 0:Nat),.bool o.isSome]
theorem Qx (B G F M:Nat) (k more:Int) (w:World) (hG:1≤G) (hG2:G≤100) (hF:F≤100) (hM:M≤100) (hB:B≤100) (hb : ∀ j:Nat,j<M→zQ G F M (j:Nat)≤13) :
 Calls Tryz.prog 338 #[jF B G F M,.int .i64 k,.int .i64 more] w fun e w'=>e = .returned (jn (jS B G F M k more))∧Upd [] w w':=by
 have HS:=Hi (fun w'=>kP B G F M k w' hG hG2 hF hM);have HBE:=Hi (fun kn w' hk=>zag B G F M kn w' hG hG2 hF hM hB hb hk);have HBD:=Hi (fun kn hk=>zdG B G F M hb kn hk);have HB:=Hi hb;unfold jF at HS HBE ⊢;have hU:=(Upd.refl [] w).alloc (.cells #[.int .i64 (B:Nat),.int .i64 (G:Nat),.int .i64 (F:Nat),.int .i64 (M:Nat)] 367);have hP:=Blk.new w [.int .i64 (B:Nat),.int .i64 (G:Nat),.int .i64 (F:Nat),.int .i64 (M:Nat)] 367;clear hb;by_cases h1:zQ G F M k = -1
 · have hs:=Hi (show jS B G F M k more=none by unfold jS; rw [if_pos (.inl h1)]);rw [h1] at HS;clear h1;go_enter Tryz.func338,Tryz.ntmps338;go_wp2_with (refine zx rfl 367 _ rfl w.heap.size rfl 367 _ hP _ Tryz.underlying367 rfl (by kernel_rfl) ?_)
   refine (HS.out _).mono ?_;rintro e w1 ⟨rfl,hU1⟩;go_wp2;go_returns;exact ⟨by rw [hs.out]; rfl,hU.then hU1⟩
 · have hk:0≤k∧k<M:=by
    unfold zQ at h1;split at h1
    · exact absurd rfl h1
    · omega
   obtain ⟨K,rfl⟩ : ∃ K:Nat,k=(K:Int):=⟨k.toNat,by omega⟩;have hnn:=VK G F M K (by omega);have h13:=HB.out K (by omega);obtain ⟨t,ht⟩ : ∃ t:Nat,zQ G F M (K:Nat)=(t:Int):=⟨(zQ G F M (K:Nat)).toNat,by omega⟩;have hnum:jS B G F M (K:Int) more=if more<0∨((2^t:Nat):Int)≤more then none else some (vM B G F M K+more.toNat):=by
    unfold jS; rw [ht];have e:(2:Int)^t=((2^t:Nat):Int):=(by simp);rw [Int.toNat_natCast,Int.toNat_natCast,e];have:((t:Int) = -1)=False:=(by simp);simp only [this,false_or]
   rw [ht] at HS h13;have hp:2^t≤2^13:=Nat.pow_le_pow_right (by omega) (by omega);have ht13:(t:Int)≤13:=h13;have e2:(2:Int)^t=((2^t:Nat):Int):=(by simp);have htf:((t:Int) == -1)=false:=(by simp);clear ht hnn h1 h13;by_cases hm:more<0
   · have hmf:decide (more<0)=true:=decide_eq_true hm;rw [if_pos (.inl hm)] at hnum;have hs:=Hi hnum;clear hnum;go_enter Tryz.func338,Tryz.ntmps338;(go_wp2_with (refine zx rfl 367 _ rfl w.heap.size rfl 367 _ hP _ Tryz.underlying367 rfl (by kernel_rfl) ?_));refine (HS.out _).mono ?_;rintro e w1 ⟨rfl,hU1⟩;go_wp2;go_returns;exact ⟨by rw [hs.out]; rfl,hU.then hU1⟩
   · have hmf:decide (more<0)=false:=decide_eq_false hm;have hsh:wrap64 ((2:Int)^t)=((2^t:Nat):Int):=by
      rw [e2];clear e2 hnum;generalize 2^t=p at *;exact IntWalk.wrap64_in _ (by omega)
     have HSH:=Hi hsh;have E2:=Hi e2;have h0t:(0:Int)≤(t:Int):=(by omega);have ht13n:t≤13:=(by omega);clear hsh e2;by_cases hg:((2^t:Nat):Int)≤more
     · rw [if_pos (.inr hg)] at hnum;have hs:=Hi hnum;have hgf:decide (wrap64 ((2:Int)^t)≤more)=true:=(by rw [HSH.out]; exact decide_eq_true hg);clear hnum hg;go_enter Tryz.func338,Tryz.ntmps338;(go_wp2_with (refine zx rfl 367 _ rfl w.heap.size rfl 367 _ hP _ Tryz.underlying367 rfl (by kernel_rfl) ?_));refine (HS.out _).mono ?_;rintro e w1 ⟨rfl,hU1⟩;go_wp2;go_returns;exact ⟨by rw [hs.out]; rfl,hU.then hU1⟩
     · rw [if_neg (by omega)] at hnum;have hs:=Hi hnum;have hgf:decide (wrap64 ((2:Int)^t)≤more)=false:=(by rw [HSH.out]; exact decide_eq_false hg);obtain ⟨MR,rfl⟩ : ∃ MR:Nat,more=(MR:Int):=⟨more.toNat,by omega⟩;have hmr:(MR:Int)≤8192:=by
        have h1 : ¬ ((2^t:Nat):Int)≤(MR:Int):=hg;clear hgf;generalize 2^t=p at *;omega
       have hle:=HBD.out K (by omega);have hle2:K*8192≤100*8192:=Nat.mul_le_mul_right _ (by omega);have HBK:=Hi (fun w'=>HBE.out K w' (by omega));clear hnum hg;generalize hq:vM B G F M K=q at *;clear hq;go_enter Tryz.func338,Tryz.ntmps338;(go_wp2_with (refine zx rfl 367 _ rfl w.heap.size rfl 367 _ hP _ Tryz.underlying367 rfl (by kernel_rfl) ?_));refine (HS.out _).mono ?_;rintro e w1 ⟨rfl,hU1⟩;have hP1:=hP.upd hU1 (by simp);(go_wp2_with (refine zx rfl 367 _ rfl w.heap.size rfl 367 _ hP1 _ Tryz.underlying367 rfl (by kernel_rfl) ?_));refine (HBK.out _).mono ?_;rintro e w2 ⟨rfl,hU2⟩;go_wp2;go_returns;exact ⟨by rw [hs.out]; simp [jn],(hU.then hU1).then hU2⟩
theorem Kc:(Tryz.prog.info? 367).map (·.size)=some 4:=by kernel_rfl
theorem Jk (w:World):Calls Tryz.prog 323 #[] w fun e w'=>e = .returned (jF 3 4 8 28)∧Upd [] w w':=by
 have hB:=Blk.new w [.int .i64 0,.int .i64 0,.int .i64 0,.int .i64 0] 367;go_enter Tryz.func323,Tryz.ntmps323;go_wp2_with (refine zv rfl 367 _ _ rfl w.heap.size rfl [.int .i64 3,.int .i64 4,.int .i64 8,.int .i64 28] rfl 367 _ hB (by kernel_rfl) rfl (by simp [Value.oneCell']) ?_; intro w2 hB3 hU2)
 exact bodyPost_ret (results_cell_row rfl _ _ _ _ _ _ _ rfl hB3 Tryz.underlying367 rfl (by rw [Kc]; rfl)) rfl ⟨rfl,((Upd.refl [] w).alloc _).trans hU2 (fun k hk=>by simp at hk; right; omega)⟩
theorem Jw (w:World):Calls Tryz.prog 325 #[] w fun e w'=>e = .returned (jF 1 2 4 30)∧Upd [] w w':=by
 have hB:=Blk.new w [.int .i64 0,.int .i64 0,.int .i64 0,.int .i64 0] 367;go_enter Tryz.func325,Tryz.ntmps325;go_wp2_with (refine zv rfl 367 _ _ rfl w.heap.size rfl [.int .i64 1,.int .i64 2,.int .i64 4,.int .i64 30] rfl 367 _ hB (by kernel_rfl) rfl (by simp [Value.oneCell']) ?_; intro w2 hB3 hU2)
 exact bodyPost_ret (results_cell_row rfl _ _ _ _ _ _ _ rfl hB3 Tryz.underlying367 rfl (by rw [Kc]; rfl)) rfl ⟨rfl,((Upd.refl [] w).alloc _).trans hU2 (fun k hk=>by simp at hk; right; omega)⟩
def ye (n:Int):Int:=if n=285 then 0 else if n<257 then -1 else zQ 4 8 28 (n-257)
def yP (n:Int):Int:=zQ 2 4 30 n
theorem ziI : ∀ j:Nat,j<28→zQ 4 8 28 (j:Nat)≤13:=by
 have : ∀ j:Fin 28,zQ 4 8 28 (j.val:Nat)≤13:=by decide
 exact fun j h=>this ⟨j,h⟩
theorem ziv : ∀ j:Nat,j<30→zQ 2 4 30 (j:Nat)≤13:=by
 have : ∀ j:Fin 30,zQ 2 4 30 (j.val:Nat)≤13:=by decide
 exact fun j h=>this ⟨j,h⟩
theorem Qm (n:Int) (w:World):Calls Tryz.prog 307 #[.int .i64 n] w fun e w'=>e = .returned (.int .i64 (yP n))∧Upd [] w w':=by
 go_enter Tryz.func307,Tryz.ntmps307;go_wp2_with fail
 refine (Jw w).mono ?_;rintro e w1 ⟨rfl,hU1⟩;have HB:=Hi (kP 1 2 4 30 n w1 (by decide) (by decide) (by decide) (by decide));go_wp2_with fail
 refine HB.out.mono ?_;rintro e w2 ⟨rfl,hU2⟩;go_wp2;go_returns;exact ⟨rfl,hU1.then hU2⟩
theorem zdn (n more:Int) (w:World):Calls Tryz.prog 313 #[.int .i64 n,.int .i64 more] w fun e w'=>e = .returned (jn (jS 1 2 4 30 n more))∧Upd [] w w':=by
 have hn:=fun w1=>Qx 1 2 4 30 n more w1 (by decide) (by decide) (by decide) (by decide) (by decide) ziv;unfold jn at hn ⊢;generalize jS 1 2 4 30 n more=o at *;have HN:=Hi hn;clear hn;go_enter Tryz.func313,Tryz.ntmps313;go_wp2_with fail
 refine (Jw w).mono ?_;rintro e w1 ⟨rfl,hU1⟩;go_wp2_with fail
 refine (HN.out w1).mono ?_;rintro e w2 ⟨rfl,hU2⟩;go_wp2;go_returns;exact ⟨rfl,hU1.then hU2⟩
theorem Qt (n:Nat) (w:World) (h9:n≤100000):Calls Tryz.prog 306 #[.int .i64 (n:Nat)] w fun e w'=>e = .returned (.int .i64 (ye n))∧Upd [] w w':=by
 by_cases h1:n=285
 · subst h1;go_enter Tryz.func306,Tryz.ntmps306;go_wp2;go_returns;exact ⟨rfl,.refl _ _⟩
 · have h1f:((n:Int)==285)=false:=(by simp; omega);by_cases h2:n<257
   · have h2f:decide ((n:Int)<257)=true:=decide_eq_true (by omega);have hl:=Hi (show ye (n:Int) = -1 by unfold ye; rw [if_neg (by omega),if_pos (by omega)]);go_enter Tryz.func306,Tryz.ntmps306;go_wp2;go_returns;exact ⟨by rw [hl.out]; rfl,.refl _ _⟩
   · have h2f:decide ((n:Int)<257)=false:=decide_eq_false (by omega);have hl:=Hi (show ye (n:Int)=zQ 4 8 28 ((n:Int)-257) by unfold ye; rw [if_neg (by omega),if_neg (by omega)]);go_enter Tryz.func306,Tryz.ntmps306;(go_wp2_with fail);refine (Jk w).mono ?_;rintro e w1 ⟨rfl,hU1⟩;have HB:=Hi (kP 3 4 8 28 ((n:Int)-257) w1 (by decide) (by decide) (by decide) (by decide));(go_wp2_with fail);refine HB.out.mono ?_;rintro e w2 ⟨rfl,hU2⟩;go_wp2;go_returns;exact ⟨by rw [hl.out]; rfl,hU1.then hU2⟩
def xy (n more:Int):Option Nat:=if n=285 then (if more=0 then some 258 else none) else if n<257 then none else
 match jS 3 4 8 28 (n-257) more with
 | some v=>if 258≤v then none else some v
 | none=>none
theorem zde (n:Nat) (more:Int) (w:World) (h9:n≤100000):Calls Tryz.prog 312 #[.int .i64 (n:Nat),.int .i64 more] w fun e w'=>e = .returned (jn (xy n more))∧Upd [] w w':=by
 by_cases h1:n=285
 · subst h1;by_cases hm:more=0
   · subst hm;go_enter Tryz.func312,Tryz.ntmps312;go_wp2;go_returns;exact ⟨rfl,.refl _ _⟩
   · have hmf:(more==0)=false:=(by simpa using hm);have hl:=Hi (show xy 285 more=none by unfold xy; rw [if_pos rfl,if_neg hm]);go_enter Tryz.func312,Tryz.ntmps312;go_wp2;go_returns;exact ⟨by rw [show ((285:Nat):Int)=285 by rfl,hl.out]; rfl,.refl _ _⟩
 · have h1f:((n:Int)==285)=false:=(by simp; omega);by_cases h2:n<257
   · have h2f:decide ((n:Int)<257)=true:=decide_eq_true (by omega);have hl:=Hi (show xy (n:Int) more=none by unfold xy; rw [if_neg (by omega),if_pos (by omega)]);go_enter Tryz.func312,Tryz.ntmps312;go_wp2;go_returns;exact ⟨by rw [hl.out]; rfl,.refl _ _⟩
   · have h2f:decide ((n:Int)<257)=false:=decide_eq_false (by omega);have hl:xy (n:Int) more=match jS 3 4 8 28 ((n:Int)-257) more with
      | some v=>if 258≤v then none else some v
      | none=>none:=by unfold xy; rw [if_neg (by omega),if_neg (by omega)]
     have hn:=fun w1=>Qx 3 4 8 28 ((n:Int)-257) more w1 (by decide) (by decide) (by decide) (by decide) (by decide) ziI;cases ho:jS 3 4 8 28 ((n:Int)-257) more with
     | none =>
       rw [ho] at hl hn;have HL:=Hi hl;have HN:=Hi (show ∀ w1,Calls Tryz.prog 338 #[jF 3 4 8 28,.int .i64 ((n:Int)-257),.int .i64 more] w1 fun e w'=>e = .returned (.tuple #[.int .i64 0,.bool false])∧Upd [] w1 w' from hn);clear hl hn ho;go_enter Tryz.func312,Tryz.ntmps312;(go_wp2_with fail);refine (Jk w).mono ?_;rintro e w1 ⟨rfl,hU1⟩;(go_wp2_with fail);refine (HN.out w1).mono ?_;rintro e w2 ⟨rfl,hU2⟩;go_wp2;go_returns;exact ⟨by rw [HL.out]; rfl,hU1.then hU2⟩
     | some v =>
       rw [ho] at hl hn;have HN:=Hi (show ∀ w1,Calls Tryz.prog 338 #[jF 3 4 8 28,.int .i64 ((n:Int)-257),.int .i64 more] w1 fun e w'=>e = .returned (.tuple #[.int .i64 (v:Nat),.bool true])∧Upd [] w1 w' from hn);clear hn ho;by_cases hv:258≤v
       · have hvf:decide ((258:Int)≤(v:Int))=true:=decide_eq_true (by omega);have HL:=Hi (hl.trans (if_pos hv));clear hl;go_enter Tryz.func312,Tryz.ntmps312;(go_wp2_with fail);refine (Jk w).mono ?_;rintro e w1 ⟨rfl,hU1⟩;(go_wp2_with fail);refine (HN.out w1).mono ?_;rintro e w2 ⟨rfl,hU2⟩;go_wp2;go_returns;exact ⟨by rw [HL.out]; rfl,hU1.then hU2⟩
       · have hvf:decide ((258:Int)≤(v:Int))=false:=decide_eq_false (by omega);have HL:=Hi (hl.trans (if_neg hv));clear hl;go_enter Tryz.func312,Tryz.ntmps312;(go_wp2_with fail);refine (Jk w).mono ?_;rintro e w1 ⟨rfl,hU1⟩;(go_wp2_with fail);refine (HN.out w1).mono ?_;rintro e w2 ⟨rfl,hU2⟩;go_wp2;go_returns;exact ⟨by rw [HL.out]; rfl,hU1.then hU2⟩
structure StAt (w:World) (x b:Nat) (v:Value) (s:ByteArray) (a:Nat) (out:List Nat) (most:Nat):Prop where
 blk:Blk w x [.pointer (some ⟨b,0,none⟩),v,.int .i64 (most:Nat)] 238
 row:Row w 5 1 v out.length (u8s out)
 rd:RdAt w b 292 s a false
 vx:v.ownBlock≠some x
 vb:v.ownBlock≠some b
 xb:x≠b
 le:out.length≤most
 cap:most≤65000
 lt : ∀ y∈out,y<256
theorem XA (x b n:Nat) (v:Value) (w:World) (s:ByteArray) (a:Nat) (out:List Nat) (most:Nat) (h:StAt w x b v s a out most) (hn:out.length+n≤most) :
 Calls Tryz.prog 270 #[.pointer (some ⟨x,0,none⟩),.int .i64 (n:Nat)] w fun e w'=>e = .returned (.tuple #[]) ∧ ∃ k,w'=w.drewN k:=by
 have hA:=h.blk.all;obtain ⟨va,vc,rfl⟩:=h.row.form;have hcap:=h.cap;clear h;generalize out.length=N at *;have hf:decide ((most:Int)-(N:Int)<(n:Int))=false:=decide_eq_false (by omega);go_enter Tryz.func270,Tryz.ntmps270;go_wp2
 go_quiet (fail)
 go_wp2;go_returns;exact ⟨rfl,_,rfl⟩
theorem Wo (x b n:Nat) (v:Value) (w:World) (s:ByteArray) (a:Nat) (out:List Nat) (most:Nat) (h:StAt w x b v s a out most) (hn : ¬ out.length+n≤most) (hn2:n≤1000000) :
 Calls Tryz.prog 270 #[.pointer (some ⟨x,0,none⟩),.int .i64 (n:Nat)] w fun e w'=>e = .panicked [{ v := .iface 29 (.int .i64 4),recovered:=false }] ∧ ∃ k,w'=w.drewN k:=by
 have hA:=h.blk.all;obtain ⟨va,vc,rfl⟩:=h.row.form;have hcap:=h.cap;have hle:=h.le;clear h;generalize out.length=N at *;have hf:decide ((most:Int)-(N:Int)<(n:Int))=true:=decide_eq_true (by omega);go_enter Tryz.func270,Tryz.ntmps270;go_wp2
 go_quiet (fail)
 go_wp2;exact ⟨rfl,rfl,_,rfl⟩
end Go.Proofs.YtfkenhihcmmgkaaGreatDoor
