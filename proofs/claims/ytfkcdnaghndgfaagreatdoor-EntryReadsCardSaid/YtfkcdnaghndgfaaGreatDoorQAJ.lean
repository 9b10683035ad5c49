/- Package symbol: plain, and the walks of its scales. -/
import Derived.Lib.MinMax
import Derived.Test.YtfkcdnaghndgfaaGreatDoorQAA
import Derived.Test.YtfkcdnaghndgfaaGreatDoorQAD
import Derived.Test.YtfkcdnaghndgfaaGreatDoorTab
set_option linter.unusedVariables false
set_option linter.unusedSimpArgs false
set_option linter.unusedSectionVars false
namespace Go.Proofs.YtfkcdnaghndgfaaGreatDoor
open Go.RowKit
def zw (G F M:Nat) (k:Int):Int:=if k<0∨(M:Int)≤k then -1 else if k<(F:Int) then 0 else (k-F)/G+1
def ja (B G F M:Nat):Nat→Nat
 | 0=>B
 | k+1=>ja B G F M k+2^(zw G F M (k:Nat)).toNat
def qR (B G F M:Nat):Value := .agg #[.int .i64 (B:Nat),.int .i64 (G:Nat),.int .i64 (F:Nat),.int .i64 (M:Nat)]
set_option maxHeartbeats 1600000 in
theorem jU (B G F M:Nat) (k:Int) (w:World) (hG:1≤G) (hG2:G≤100) (hF:F≤100) (hM:M≤100) :
 Calls Tryz.prog 199 #[qR B G F M,.int .i64 k] w fun e w'=>e = .returned (.int .i64 (zw G F M k))∧Upd [] w w':=by
 unfold qR
 have hU:=(Upd.refl [] w).alloc (.cells #[.int .i64 (B:Nat),.int .i64 (G:Nat),.int .i64 (F:Nat),.int .i64 (M:Nat)] 233)
 by_cases h0:k<0
 · have hs:=Lib.hid (show zw G F M k = -1 by unfold zw; rw [if_pos (.inl h0)])
   have h0f:decide (k<0)=true:=decide_eq_true h0
   go_enter Tryz.func199,Tryz.ntmps199
   go_wp2
   go_returns
   exact ⟨by rw [hs.out]; rfl,hU⟩
 · have h0f:decide (k<0)=false:=decide_eq_false h0
   have h00:0≤k:=by omega
   by_cases hm:(M:Int)≤k
   · have hs:=Lib.hid (show zw G F M k = -1 by unfold zw; rw [if_pos (.inr hm)])
     have hmf:decide ((M:Int)≤k)=true:=decide_eq_true hm
     go_enter Tryz.func199,Tryz.ntmps199
     go_wp2
     go_returns
     exact ⟨by rw [hs.out]; rfl,hU⟩
   · have hmf:decide ((M:Int)≤k)=false:=decide_eq_false hm
     have hkM:k<(M:Int):=by omega
     by_cases hf:k<(F:Int)
     · have hs:=Lib.hid (show zw G F M k=0 by unfold zw; rw [if_neg (by omega),if_pos hf])
       go_enter Tryz.func199,Tryz.ntmps199
       go_wp2
       go_returns
       exact ⟨by rw [hs.out]; rfl,hU⟩
     · have hs:=Lib.hid (show zw G F M k=(k-F)/G+1 by unfold zw; rw [if_neg (by omega),if_neg hf])
       have hGz : ¬ (G:Int)=0:=by omega
       have hkF:(F:Int)≤k:=by omega
       have hd:(k-(F:Int)).tdiv (G:Int)=(k-F)/G:=Int.tdiv_eq_ediv_of_nonneg (by omega)
       have hq1:0≤(k-(F:Int))/G:=Int.ediv_nonneg (by omega) (by omega)
       have hq2:(k-(F:Int))/G≤100:=Int.le_trans (Int.ediv_le_self _ (by omega)) (by omega)
       clear hf h0 hm
       go_enter Tryz.func199,Tryz.ntmps199
       go_wp2
       go_returns
       exact ⟨by rw [hs.out]; rfl,hU⟩
theorem QD (G F M k:Nat) (h:k<M):0≤zw G F M (k:Nat):=by
 unfold zw
 rw [if_neg (by omega)]
 split
 · omega
 · have:0≤((k:Int)-F)/G:=Int.ediv_nonneg (by omega) (by omega)
   omega
theorem Ku (B G F M:Nat) (hb : ∀ j:Nat,j<M→zw G F M (j:Nat)≤13) (k:Nat) (hk:k≤M):ja B G F M k≤B+k*8192:=by
 induction k with
 | zero=>simp [ja]
 | succ k ih =>
   have h1:=hb k (by omega)
   have h2:2^(zw G F M (k:Nat)).toNat≤2^13:=Nat.pow_le_pow_right (by omega) (by omega)
   have:=ih (by omega)
   simp only [ja]; omega
set_option maxRecDepth 100000 in
set_option maxHeartbeats 1600000 in
theorem Zc (B G F M k:Nat) (w:World) (hG:1≤G) (hG2:G≤100) (hF:F≤100) (hM:M≤100) (hB:B≤100) (hb : ∀ j:Nat,j<M→zw G F M (j:Nat)≤13) (hk:k≤M) :
 Calls Tryz.prog 214 #[qR B G F M,.int .i64 (k:Nat)] w fun e w'=>e = .returned (.int .i64 (ja B G F M k:Nat))∧Upd [] w w':=by
 have HB:=Lib.hid (fun j w'=>jU B G F M j w' hG hG2 hF hM)
 have HBD:=Lib.hid hb
 unfold qR
 have hU:=(Upd.refl [] w).alloc (.cells #[.int .i64 (B:Nat),.int .i64 (G:Nat),.int .i64 (F:Nat),.int .i64 (M:Nat)] 233)
 have hP:=Blk.new w [.int .i64 (B:Nat),.int .i64 (G:Nat),.int .i64 (F:Nat),.int .i64 (M:Nat)] 233
 unfold qR at HB
 clear hb
 go_enter Tryz.func214,Tryz.ntmps214
 go_wp2
 go_loopg [5,10] k (fun g s5 s10 wr => ∃ i,i≤k∧g=k-i∧s10 = .int .i64 (i:Nat)∧s5 = .int .i64 (ja B G F M i:Nat)∧Upd [] w wr∧Blk wr w.heap.size [.int .i64 (B:Nat),.int .i64 (G:Nat),.int .i64 (F:Nat),.int .i64 (M:Nat)] 233)
 case atStart=>exact ⟨0,by omega,rfl,rfl,rfl,hU,hP⟩
 case round =>
  obtain ⟨i,hi,rfl,rfl,rfl,hUr,hPr⟩:=hrel
  have hle:=Ku B G F M HBD.out i (by omega)
  have hle2:i*8192≤100*8192:=Nat.mul_le_mul_right _ (by omega)
  clear hU hP
  by_cases hc:i<k
  · have hcz:(i:Int)<(k:Int):=by omega
    have hbi:=HB.out (i:Nat)
    have hnn:=QD G F M i (by omega)
    have hb13:=HBD.out i (by omega)
    have hst:=Lib.hid (show ja B G F M (i+1)=ja B G F M i+2^(zw G F M (i:Nat)).toNat by rfl)
    generalize ja B G F M i=q at *
    obtain ⟨t,ht⟩ : ∃ t:Nat,zw G F M (i:Nat)=(t:Int):=⟨(zw G F M (i:Nat)).toNat,by omega⟩
    rw [ht] at hbi hst hb13 hnn
    rw [Int.toNat_natCast] at hst
    have ht13:t≤13:=by omega
    have hp:2^t≤2^13:=Nat.pow_le_pow_right (by omega) ht13
    have HBI:=Lib.hid hbi
    clear hbi ht hb13
    go_wp2_with (refine zr rfl 233 _ rfl w.heap.size rfl 233 _ hPr _ Tryz.underlying233 rfl (by kernel_rfl) ?_)
    refine (HBI.out wr).mono ?_
    rintro e w1 ⟨rfl,hU1⟩
    go_wp2
    go_roundg (k-(i+1))
    case measure=>omega
    case rel =>
     refine ⟨i+1,by omega,rfl,by go_num,?_,hUr.then hU1,hPr.upd hU1 (by simp)⟩
     have e:(2:Int)^t=((2^t:Nat):Int):=by simp
     have e3:wrap64 ((2^t:Nat):Int)=((2^t:Nat):Int):=by
      clear e
      generalize 2^t=p at *
      exact IntWalk.wrap64_in _ (by omega)
     rw [hst.out,e,e3,← Int.natCast_add]
     clear e e3
     generalize 2^t=p at *
     rw [IntWalk.wrap64_in _ (by omega)]
  · have hik:i=k:=by omega
    have hcz : ¬ (i:Int)<(k:Int):=by omega
    subst hik
    generalize hq:ja B G F M i=q at *
    have HQ:=Lib.hid hq
    clear hq
    go_wp2
    go_returns
    exact ⟨by rw [HQ.out]; rfl,hUr⟩
def jY (B G F M:Nat) (k more:Int):Option Nat:=if zw G F M k = -1∨more<0∨(2:Int)^(zw G F M k).toNat≤more then none else some (ja B G F M k.toNat+more.toNat)
def jm (o:Option Nat):Value := .tuple #[.int .i64 (o.getD 0:Nat),.bool o.isSome]
set_option maxRecDepth 100000 in
set_option maxHeartbeats 1600000 in
theorem JU (B G F M:Nat) (k more:Int) (w:World) (hG:1≤G) (hG2:G≤100) (hF:F≤100) (hM:M≤100) (hB:B≤100) (hb : ∀ j:Nat,j<M→zw G F M (j:Nat)≤13) :
 Calls Tryz.prog 230 #[qR B G F M,.int .i64 k,.int .i64 more] w fun e w'=>e = .returned (jm (jY B G F M k more))∧Upd [] w w':=by
 have HS:=Lib.hid (fun w'=>jU B G F M k w' hG hG2 hF hM)
 have HBE:=Lib.hid (fun kn w' hk=>Zc B G F M kn w' hG hG2 hF hM hB hb hk)
 have HBD:=Lib.hid (fun kn hk=>Ku B G F M hb kn hk)
 have HB:=Lib.hid hb
 unfold qR at HS HBE ⊢
 have hU:=(Upd.refl [] w).alloc (.cells #[.int .i64 (B:Nat),.int .i64 (G:Nat),.int .i64 (F:Nat),.int .i64 (M:Nat)] 233)
 have hP:=Blk.new w [.int .i64 (B:Nat),.int .i64 (G:Nat),.int .i64 (F:Nat),.int .i64 (M:Nat)] 233
 clear hb
 by_cases h1:zw G F M k = -1
 · have hs:=Lib.hid (show jY B G F M k more=none by unfold jY; rw [if_pos (.inl h1)])
   rw [h1] at HS
   clear h1
   go_enter Tryz.func230,Tryz.ntmps230
   go_wp2_with (refine zr rfl 233 _ rfl w.heap.size rfl 233 _ hP _ Tryz.underlying233 rfl (by kernel_rfl) ?_)
   refine (HS.out _).mono ?_
   rintro e w1 ⟨rfl,hU1⟩
   go_wp2
   go_returns
   exact ⟨by rw [hs.out]; rfl,hU.then hU1⟩
 · have hk:0≤k∧k<M:=by
    unfold zw at h1
    split at h1
    · exact absurd rfl h1
    · omega
   obtain ⟨K,rfl⟩ : ∃ K:Nat,k=(K:Int):=⟨k.toNat,by omega⟩
   have hnn:=QD G F M K (by omega)
   have h13:=HB.out K (by omega)
   obtain ⟨t,ht⟩ : ∃ t:Nat,zw G F M (K:Nat)=(t:Int):=⟨(zw G F M (K:Nat)).toNat,by omega⟩
   have hnum:jY B G F M (K:Int) more=if more<0∨((2^t:Nat):Int)≤more then none else some (ja B G F M K+more.toNat):=by
    unfold jY; rw [ht]
    have e:(2:Int)^t=((2^t:Nat):Int):=by simp
    rw [Int.toNat_natCast,Int.toNat_natCast,e]
    have:((t:Int) = -1)=False:=by simp
    simp only [this,false_or]
   rw [ht] at HS h13
   have hp:2^t≤2^13:=Nat.pow_le_pow_right (by omega) (by omega)
   have ht13:(t:Int)≤13:=h13
   have e2:(2:Int)^t=((2^t:Nat):Int):=by simp
   have htf:((t:Int) == -1)=false:=by simp
   clear ht hnn h1 h13
   by_cases hm:more<0
   · have hmf:decide (more<0)=true:=decide_eq_true hm
     rw [if_pos (.inl hm)] at hnum
     have hs:=Lib.hid hnum
     clear hnum
     go_enter Tryz.func230,Tryz.ntmps230
     go_wp2_with (refine zr rfl 233 _ rfl w.heap.size rfl 233 _ hP _ Tryz.underlying233 rfl (by kernel_rfl) ?_)
     refine (HS.out _).mono ?_
     rintro e w1 ⟨rfl,hU1⟩
     go_wp2
     go_returns
     exact ⟨by rw [hs.out]; rfl,hU.then hU1⟩
   · have hmf:decide (more<0)=false:=decide_eq_false hm
     have hsh:wrap64 ((2:Int)^t)=((2^t:Nat):Int):=by
      rw [e2]
      clear e2 hnum
      generalize 2^t=p at *
      exact IntWalk.wrap64_in _ (by omega)
     have HSH:=Lib.hid hsh
     have E2:=Lib.hid e2
     have h0t:(0:Int)≤(t:Int):=by omega
     have ht13n:t≤13:=by omega
     clear hsh e2
     by_cases hg:((2^t:Nat):Int)≤more
     · rw [if_pos (.inr hg)] at hnum
       have hs:=Lib.hid hnum
       have hgf:decide (wrap64 ((2:Int)^t)≤more)=true:=by rw [HSH.out]; exact decide_eq_true hg
       clear hnum hg
       go_enter Tryz.func230,Tryz.ntmps230
       go_wp2_with (refine zr rfl 233 _ rfl w.heap.size rfl 233 _ hP _ Tryz.underlying233 rfl (by kernel_rfl) ?_)
       refine (HS.out _).mono ?_
       rintro e w1 ⟨rfl,hU1⟩
       go_wp2
       go_returns
       exact ⟨by rw [hs.out]; rfl,hU.then hU1⟩
     · rw [if_neg (by omega)] at hnum
       have hs:=Lib.hid hnum
       have hgf:decide (wrap64 ((2:Int)^t)≤more)=false:=by rw [HSH.out]; exact decide_eq_false hg
       obtain ⟨MR,rfl⟩ : ∃ MR:Nat,more=(MR:Int):=⟨more.toNat,by omega⟩
       have hmr:(MR:Int)≤8192:=by
        have h1 : ¬ ((2^t:Nat):Int)≤(MR:Int):=hg
        clear hgf
        generalize 2^t=p at *
        omega
       have hle:=HBD.out K (by omega)
       have hle2:K*8192≤100*8192:=Nat.mul_le_mul_right _ (by omega)
       have HBK:=Lib.hid (fun w'=>HBE.out K w' (by omega))
       clear hnum hg
       generalize hq:ja B G F M K=q at *
       clear hq
       go_enter Tryz.func230,Tryz.ntmps230
       go_wp2_with (refine zr rfl 233 _ rfl w.heap.size rfl 233 _ hP _ Tryz.underlying233 rfl (by kernel_rfl) ?_)
       refine (HS.out _).mono ?_
       rintro e w1 ⟨rfl,hU1⟩
       have hP1:=hP.upd hU1 (by simp)
       go_wp2_with (refine zr rfl 233 _ rfl w.heap.size rfl 233 _ hP1 _ Tryz.underlying233 rfl (by kernel_rfl) ?_)
       refine (HBK.out _).mono ?_
       rintro e w2 ⟨rfl,hU2⟩
       go_wp2
       go_returns
       exact ⟨by rw [hs.out]; simp [jm],(hU.then hU1).then hU2⟩
end Go.Proofs.YtfkcdnaghndgfaaGreatDoor
namespace Go.Proofs.YtfkcdnaghndgfaaGreatDoor
open Go.RowKit
theorem VU:(Tryz.prog.info? 233).map (·.size)=some 4:=by kernel_rfl
theorem ky (w:World):Calls Tryz.prog 187 #[] w fun e w'=>e = .returned (qR 3 4 8 28)∧Upd [] w w':=by
 have hB:=Blk.new w [.int .i64 0,.int .i64 0,.int .i64 0,.int .i64 0] 233
 go_enter Tryz.func187,Tryz.ntmps187
 go_wp2_with (refine zs rfl 233 _ _ rfl w.heap.size rfl [.int .i64 3,.int .i64 4,.int .i64 8,.int .i64 28] rfl 233 _ hB (by kernel_rfl) rfl (by simp [Value.oneCell']) ?_; intro w2 hB3 hU2)
 exact bodyPost_ret (results_cell_row rfl _ _ _ _ _ _ _ rfl hB3 Tryz.underlying233 rfl (by rw [VU]; rfl)) rfl ⟨rfl,((Upd.refl [] w).alloc _).trans hU2 (fun k hk=>by simp at hk; right; omega)⟩
theorem kr (w:World):Calls Tryz.prog 189 #[] w fun e w'=>e = .returned (qR 1 2 4 30)∧Upd [] w w':=by
 have hB:=Blk.new w [.int .i64 0,.int .i64 0,.int .i64 0,.int .i64 0] 233
 go_enter Tryz.func189,Tryz.ntmps189
 go_wp2_with (refine zs rfl 233 _ _ rfl w.heap.size rfl [.int .i64 1,.int .i64 2,.int .i64 4,.int .i64 30] rfl 233 _ hB (by kernel_rfl) rfl (by simp [Value.oneCell']) ?_; intro w2 hB3 hU2)
 exact bodyPost_ret (results_cell_row rfl _ _ _ _ _ _ _ rfl hB3 Tryz.underlying233 rfl (by rw [VU]; rfl)) rfl ⟨rfl,((Upd.refl [] w).alloc _).trans hU2 (fun k hk=>by simp at hk; right; omega)⟩
def zT (n:Int):Int:=if n=285 then 0 else if n<257 then -1 else zw 4 8 28 (n-257)
def yJ (n:Int):Int:=zw 2 4 30 n
theorem zdk : ∀ j:Nat,j<28→zw 4 8 28 (j:Nat)≤13:=by
 have : ∀ j:Fin 28,zw 4 8 28 (j.val:Nat)≤13:=by decide
 exact fun j h=>this ⟨j,h⟩
theorem zdl : ∀ j:Nat,j<30→zw 2 4 30 (j:Nat)≤13:=by
 have : ∀ j:Fin 30,zw 2 4 30 (j.val:Nat)≤13:=by decide
 exact fun j h=>this ⟨j,h⟩
theorem Qd (n:Int) (w:World):Calls Tryz.prog 166 #[.int .i64 n] w fun e w'=>e = .returned (.int .i64 (yJ n))∧Upd [] w w':=by
 go_enter Tryz.func166,Tryz.ntmps166
 go_wp2_with fail
 refine (kr w).mono ?_
 rintro e w1 ⟨rfl,hU1⟩
 have HB:=Lib.hid (jU 1 2 4 30 n w1 (by decide) (by decide) (by decide) (by decide))
 go_wp2_with fail
 refine HB.out.mono ?_
 rintro e w2 ⟨rfl,hU2⟩
 go_wp2
 go_returns
 exact ⟨rfl,hU1.then hU2⟩
theorem zca (n more:Int) (w:World):Calls Tryz.prog 209 #[.int .i64 n,.int .i64 more] w fun e w'=>e = .returned (jm (jY 1 2 4 30 n more))∧Upd [] w w':=by
 have hn:=fun w1=>JU 1 2 4 30 n more w1 (by decide) (by decide) (by decide) (by decide) (by decide) zdl
 unfold jm at hn ⊢
 generalize jY 1 2 4 30 n more=o at *
 have HN:=Lib.hid hn
 clear hn
 go_enter Tryz.func209,Tryz.ntmps209
 go_wp2_with fail
 refine (kr w).mono ?_
 rintro e w1 ⟨rfl,hU1⟩
 go_wp2_with fail
 refine (HN.out w1).mono ?_
 rintro e w2 ⟨rfl,hU2⟩
 go_wp2
 go_returns
 exact ⟨rfl,hU1.then hU2⟩
theorem Qe (n:Nat) (w:World) (h9:n≤100000):Calls Tryz.prog 165 #[.int .i64 (n:Nat)] w fun e w'=>e = .returned (.int .i64 (zT n))∧Upd [] w w':=by
 by_cases h1:n=285
 · subst h1
   go_enter Tryz.func165,Tryz.ntmps165
   go_wp2
   go_returns
   exact ⟨rfl,.refl _ _⟩
 · have h1f:((n:Int)==285)=false:=by simp; omega
   by_cases h2:n<257
   · have h2f:decide ((n:Int)<257)=true:=decide_eq_true (by omega)
     have hl:=Lib.hid (show zT (n:Int) = -1 by unfold zT; rw [if_neg (by omega),if_pos (by omega)])
     go_enter Tryz.func165,Tryz.ntmps165
     go_wp2
     go_returns
     exact ⟨by rw [hl.out]; rfl,.refl _ _⟩
   · have h2f:decide ((n:Int)<257)=false:=decide_eq_false (by omega)
     have hl:=Lib.hid (show zT (n:Int)=zw 4 8 28 ((n:Int)-257) by unfold zT; rw [if_neg (by omega),if_neg (by omega)])
     go_enter Tryz.func165,Tryz.ntmps165
     go_wp2_with fail
     refine (ky w).mono ?_
     rintro e w1 ⟨rfl,hU1⟩
     have HB:=Lib.hid (jU 3 4 8 28 ((n:Int)-257) w1 (by decide) (by decide) (by decide) (by decide))
     go_wp2_with fail
     refine HB.out.mono ?_
     rintro e w2 ⟨rfl,hU2⟩
     go_wp2
     go_returns
     exact ⟨by rw [hl.out]; rfl,hU1.then hU2⟩
def xq (n more:Int):Option Nat:=if n=285 then (if more=0 then some 258 else none) else if n<257 then none else
 match jY 3 4 8 28 (n-257) more with
 | some v=>if 258≤v then none else some v
 | none=>none
set_option maxRecDepth 100000 in
theorem zcm (n:Nat) (more:Int) (w:World) (h9:n≤100000):Calls Tryz.prog 208 #[.int .i64 (n:Nat),.int .i64 more] w fun e w'=>e = .returned (jm (xq n more))∧Upd [] w w':=by
 by_cases h1:n=285
 · subst h1
   by_cases hm:more=0
   · subst hm
     go_enter Tryz.func208,Tryz.ntmps208
     go_wp2
     go_returns
     exact ⟨rfl,.refl _ _⟩
   · have hmf:(more==0)=false:=by simpa using hm
     have hl:=Lib.hid (show xq 285 more=none by unfold xq; rw [if_pos rfl,if_neg hm])
     go_enter Tryz.func208,Tryz.ntmps208
     go_wp2
     go_returns
     exact ⟨by rw [show ((285:Nat):Int)=285 by rfl,hl.out]; rfl,.refl _ _⟩
 · have h1f:((n:Int)==285)=false:=by simp; omega
   by_cases h2:n<257
   · have h2f:decide ((n:Int)<257)=true:=decide_eq_true (by omega)
     have hl:=Lib.hid (show xq (n:Int) more=none by unfold xq; rw [if_neg (by omega),if_pos (by omega)])
     go_enter Tryz.func208,Tryz.ntmps208
     go_wp2
     go_returns
     exact ⟨by rw [hl.out]; rfl,.refl _ _⟩
   · have h2f:decide ((n:Int)<257)=false:=decide_eq_false (by omega)
     have hl:xq (n:Int) more=match jY 3 4 8 28 ((n:Int)-257) more with
      | some v=>if 258≤v then none else some v
      | none=>none:=by unfold xq; rw [if_neg (by omega),if_neg (by omega)]
     have hn:=fun w1=>JU 3 4 8 28 ((n:Int)-257) more w1 (by decide) (by decide) (by decide) (by decide) (by decide) zdk
     cases ho:jY 3 4 8 28 ((n:Int)-257) more with
     | none =>
       rw [ho] at hl hn
       have HL:=Lib.hid hl
       have HN:=Lib.hid (show ∀ w1,Calls Tryz.prog 230 #[qR 3 4 8 28,.int .i64 ((n:Int)-257),.int .i64 more] w1 fun e w'=>e = .returned (.tuple #[.int .i64 0,.bool false])∧Upd [] w1 w' from hn)
       clear hl hn ho
       go_enter Tryz.func208,Tryz.ntmps208
       go_wp2_with fail
       refine (ky w).mono ?_
       rintro e w1 ⟨rfl,hU1⟩
       go_wp2_with fail
       refine (HN.out w1).mono ?_
       rintro e w2 ⟨rfl,hU2⟩
       go_wp2
       go_returns
       exact ⟨by rw [HL.out]; rfl,hU1.then hU2⟩
     | some v =>
       rw [ho] at hl hn
       have HN:=Lib.hid (show ∀ w1,Calls Tryz.prog 230 #[qR 3 4 8 28,.int .i64 ((n:Int)-257),.int .i64 more] w1 fun e w'=>e = .returned (.tuple #[.int .i64 (v:Nat),.bool true])∧Upd [] w1 w' from hn)
       clear hn ho
       by_cases hv:258≤v
       · have hvf:decide ((258:Int)≤(v:Int))=true:=decide_eq_true (by omega)
         have HL:=Lib.hid (hl.trans (if_pos hv))
         clear hl
         go_enter Tryz.func208,Tryz.ntmps208
         go_wp2_with fail
         refine (ky w).mono ?_
         rintro e w1 ⟨rfl,hU1⟩
         go_wp2_with fail
         refine (HN.out w1).mono ?_
         rintro e w2 ⟨rfl,hU2⟩
         go_wp2
         go_returns
         exact ⟨by rw [HL.out]; rfl,hU1.then hU2⟩
       · have hvf:decide ((258:Int)≤(v:Int))=false:=decide_eq_false (by omega)
         have HL:=Lib.hid (hl.trans (if_neg hv))
         clear hl
         go_enter Tryz.func208,Tryz.ntmps208
         go_wp2_with fail
         refine (ky w).mono ?_
         rintro e w1 ⟨rfl,hU1⟩
         go_wp2_with fail
         refine (HN.out w1).mono ?_
         rintro e w2 ⟨rfl,hU2⟩
         go_wp2
         go_returns
         exact ⟨by rw [HL.out]; rfl,hU1.then hU2⟩
end Go.Proofs.YtfkcdnaghndgfaaGreatDoor
namespace Go.Proofs.YtfkcdnaghndgfaaGreatDoor
open Go.RowKit
structure StAt (w:World) (x b:Nat) (v:Value) (s:ByteArray) (a:Nat) (out:List Nat) (most:Nat):Prop where
 blk:Blk w x [.pointer (some ⟨b,0,none⟩),v,.int .i64 (most:Nat)] 155
 row:Row w 5 1 v out.length (u8s out)
 rd:RdAt w b 194 s a false
 vx:v.ownBlock≠some x
 vb:v.ownBlock≠some b
 xb:x≠b
 le:out.length≤most
 cap:most≤65000
 lt : ∀ y∈out,y<256
theorem Yp (x b n:Nat) (v:Value) (w:World) (s:ByteArray) (a:Nat) (out:List Nat) (most:Nat) (h:StAt w x b v s a out most) (hn:out.length+n≤most) :
 Calls Tryz.prog 176 #[.pointer (some ⟨x,0,none⟩),.int .i64 (n:Nat)] w fun e w'=>e = .returned (.tuple #[]) ∧ ∃ k,w'=w.drewN k:=by
 have hA:=h.blk.all
 obtain ⟨va,vc,rfl⟩:=h.row.form
 have hcap:=h.cap
 clear h
 generalize out.length=N at *
 have hf:decide ((most:Int)-(N:Int)<(n:Int))=false:=decide_eq_false (by omega)
 go_enter Tryz.func176,Tryz.ntmps176
 go_wp2
 go_quiet (fail)
 go_wp2
 go_returns
 exact ⟨rfl,_,rfl⟩
theorem KP (x b n:Nat) (v:Value) (w:World) (s:ByteArray) (a:Nat) (out:List Nat) (most:Nat) (h:StAt w x b v s a out most) (hn : ¬ out.length+n≤most) (hn2:n≤1000000) :
 Calls Tryz.prog 176 #[.pointer (some ⟨x,0,none⟩),.int .i64 (n:Nat)] w fun e w'=>e = .panicked [{ v := .iface 27 (.int .i64 4),recovered:=false }] ∧ ∃ k,w'=w.drewN k:=by
 have hA:=h.blk.all
 obtain ⟨va,vc,rfl⟩:=h.row.form
 have hcap:=h.cap
 have hle:=h.le
 clear h
 generalize out.length=N at *
 have hf:decide ((most:Int)-(N:Int)<(n:Int))=true:=decide_eq_true (by omega)
 go_enter Tryz.func176,Tryz.ntmps176
 go_wp2
 go_quiet (fail)
 go_wp2
 exact ⟨rfl,rfl,_,rfl⟩
end Go.Proofs.YtfkcdnaghndgfaaGreatDoor
