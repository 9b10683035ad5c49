/- Package swingleref06: Long, LongBits, LongOf, BackBits, BackOf: walks. -/
import Derived.Lib.MinMax
import Derived.Test.YtfkcdnaghndgfaaGreatDoorQAY
import Derived.Test.YtfkcdnaghndgfaaGreatDoorCopy
import Derived.Test.YtfkcdnaghndgfaaGreatDoorQAM
import Derived.Test.YtfkcdnaghndgfaaGreatDoorQAF
set_option linter.unusedVariables false
set_option linter.unusedSimpArgs false
set_option linter.unusedSectionVars false
namespace Go.Proofs.YtfkcdnaghndgfaaGreatDoor
open Go.RowKit
instance (n i:Nat):Decidable (isL n i):=by unfold isL; infer_instance
theorem zfH : ∀ n:Fin 259,3≤n.val→zT ((257+(zP n.val 29 0).getD 0:Nat):Int)=((xC.getD ((zP n.val 29 0).getD 0) 0:Nat):Int):=by decide +kernel
theorem zeq : ∀ c:Fin 300,zT (c.val:Nat) = -1∨(257≤c.val∧3≤lAt.getD (c.val-257) 0∧lAt.getD (c.val-257) 0≤258∧zP (lAt.getD (c.val-257) 0) 29 0=some (c.val-257)):=by decide +kernel
theorem zit : ∀ n:Fin 259,3≤n.val→xq ((257+(zP n.val 29 0).getD 0:Nat):Int) ((n.val-lAt.getD ((zP n.val 29 0).getD 0) 0:Nat):Int)=some n.val:=by decide +kernel
theorem zf9 : ∀ c:Fin 300,∀ m:Fin 32,xq (c.val:Nat) (m.val:Nat)=none∨((xq (c.val:Nat) (m.val:Nat)).isSome=true∧(xq (c.val:Nat) (m.val:Nat)).getD 0<259∧3≤(xq (c.val:Nat) (m.val:Nat)).getD 0∧257≤c.val ∧
 zP ((xq (c.val:Nat) (m.val:Nat)).getD 0) 29 0=some (c.val-257)∧(xq (c.val:Nat) (m.val:Nat)).getD 0-lAt.getD (c.val-257) 0=m.val):=by decide +kernel
theorem zhY (c:Fin 300) (m:Fin 32):xq (c.val:Nat) (m.val:Nat)=none ∨ ∃ v:Nat,v<259∧xq (c.val:Nat) (m.val:Nat)=some v∧3≤v∧257≤c.val∧zP v 29 0=some (c.val-257)∧v-lAt.getD (c.val-257) 0=m.val:=by
 rcases zf9 c m with h | ⟨h0,h1,h2,h3,h4,h5⟩
 · exact .inl h
 · obtain ⟨v,hv⟩:=Option.isSome_iff_exists.1 h0
   rw [hv] at h1 h2 h4 h5
   exact .inr ⟨v,h1,hv,h2,h3,h4,h5⟩
set_option maxRecDepth 100000 in
set_option maxHeartbeats 3200000 in
theorem YC (c:Nat) (w:World) (hc:c<300):Calls Tryz.prog 108 #[.int .i64 (c:Nat)] w fun e w'=>e = .returned (.int .i64 (zT (c:Nat)))∧Upd [] w w':=by
 have HM:=Lib.hid (zeq ⟨c,hc⟩)
 have HB:=Lib.hid (show zT (c:Nat)=zT (c:Nat) from rfl)
 obtain ⟨r,hr⟩ : ∃ r,r=zT (c:Nat):=⟨_,rfl⟩
 have HR:=Lib.hid hr
 rw [← hr]
 clear hr HB
 go_enter Tryz.func108,Tryz.ntmps108
 go_wp2
 go_loopg [3] 256 (fun g s3 wr => ∃ n,3≤n∧n≤259∧g=259-n∧s3 = .int .i64 (n:Nat)∧Hid (∀ j,3≤j→j<n → ∀ i,zP j 29 0=some i→257+i≠c)∧Upd [] w wr)
 case atStart=>exact ⟨3,by omega,by omega,rfl,rfl,Lib.hid (fun j h1 h2=>by omega),.refl _ _⟩
 case round =>
  obtain ⟨n,h3,h259,rfl,rfl,HN,hU⟩:=hrel
  by_cases hn:n≤258
  · have hnz:(n:Int)≤258:=by omega
    have HL:=Lib.hid (VT n wr h3 hn)
    go_wp2_with fail
    refine HL.out.mono ?_
    rintro e w2 ⟨i,hi,rfl,hU2⟩
    have hbh:=zfH ⟨n,by omega⟩ h3
    dsimp only at hbh
    rw [hi] at hbh
    simp only [Option.getD_some] at hbh
    have HBH:=Lib.hid hbh
    have HI:=Lib.hid hi
    clear hbh hi
    unfold JY
    generalize xC.getD i 0=bb at *
    generalize n-lAt.getD i 0=mm at *
    by_cases hcc:257+i=c
    · have t1:((257:Int)+(i:Int)==(c:Int))=true:=by simp; omega
      go_wp2
      go_returns
      refine ⟨?_,hU.then (hU2.alloc _)⟩
      rw [HR.out,← hcc,HBH.out]; rfl
    · have t1:((257:Int)+(i:Int)==(c:Int))=false:=by simp; omega
      go_wp2
      go_roundg (259-(n+1))
      · refine ⟨n+1,by omega,by omega,rfl,by first | rfl | go_num,Lib.hid ?_,hU.then (hU2.alloc _)⟩
        intro j h1 h2 i' hj
        by_cases hjn:j<n
        · exact HN.out j h1 hjn i' hj
        · have:j=n:=by omega
          subst this
          rw [HI.out] at hj
          cases hj
          exact hcc
      · omega
  · have hnz : ¬ (n:Int)≤258:=by omega
    go_wp2
    go_returns
    refine ⟨?_,hU⟩
    rw [HR.out]
    rcases HM.out with h | ⟨h1,h2,h3',h4⟩
    · rw [h]; rfl
    · exact absurd (by omega) (HN.out _ h2 (by omega) _ h4)
set_option maxRecDepth 100000 in
set_option maxHeartbeats 3200000 in
theorem zaU (c m:Nat) (w:World) (hc:c<300) (hm:m<32):Calls Tryz.prog 109 #[.int .i64 (c:Nat),.int .i64 (m:Nat)] w fun e w'=>e = .returned (jm (xq (c:Nat) (m:Nat)))∧Upd [] w w':=by
 have HM:=Lib.hid (zhY ⟨c,hc⟩ ⟨m,hm⟩)
 obtain ⟨r,hr⟩ : ∃ r,r=xq (c:Nat) (m:Nat):=⟨_,rfl⟩
 have HR:=Lib.hid hr
 rw [← hr]
 clear hr
 go_enter Tryz.func109,Tryz.ntmps109
 go_wp2
 go_loopg [6] 256 (fun g s6 wr => ∃ n,3≤n∧n≤259∧g=259-n∧s6 = .int .i64 (n:Nat)∧Hid (∀ j,3≤j→j<n → ∀ i,zP j 29 0=some i → ¬ (257+i=c∧j-lAt.getD i 0=m))∧Upd [] w wr)
 case atStart=>exact ⟨3,by omega,by omega,rfl,rfl,Lib.hid (fun j h1 h2=>by omega),.refl _ _⟩
 case round =>
  obtain ⟨n,h3,h259,rfl,rfl,HN,hU⟩:=hrel
  by_cases hn:n≤258
  · have hnz:(n:Int)≤258:=by omega
    have HL:=Lib.hid (VT n wr h3 hn)
    go_wp2_with fail
    refine HL.out.mono ?_
    rintro e w2 ⟨i,hi,rfl,hU2⟩
    have hbh:=zit ⟨n,by omega⟩ h3
    dsimp only at hbh
    rw [hi] at hbh
    simp only [Option.getD_some] at hbh
    have HBH:=Lib.hid hbh
    have HI:=Lib.hid hi
    clear hbh hi
    unfold JY
    generalize xC.getD i 0=bb at *
    obtain ⟨mm,hmm⟩ : ∃ mm,mm=n-lAt.getD i 0:=⟨_,rfl⟩
    rw [← hmm] at HBH ⊢
    have HMM:=Lib.hid hmm
    clear hmm
    have next : ¬ (257+i=c∧mm=m)→Hid (∀ j,3≤j→j<n+1 → ∀ i,zP j 29 0=some i → ¬ (257+i=c∧j-lAt.getD i 0=m)):=fun hcc=>Lib.hid (by
     intro j h1 h2 i' hj
     by_cases hjn:j<n
     · exact HN.out j h1 hjn i' hj
     · have:j=n:=by omega
       subst this
       rw [HI.out] at hj
       cases hj
       rw [← HMM.out]
       exact hcc)
    have NEXT:=Lib.hid next
    clear next
    by_cases hcc:257+i=c
    · have t1:((257:Int)+(i:Int)==(c:Int))=true:=by simp; omega
      by_cases hm2:mm=m
      · have t2:((mm:Int)==(m:Int))=true:=by simp; omega
        have t2':(mm==m)=true:=by simp [hm2]
        go_wp2
        go_returns
        refine ⟨?_,hU.then (hU2.alloc _)⟩
        rw [HR.out,← hcc,← hm2,HBH.out]
        rfl
      · have t2:((mm:Int)==(m:Int))=false:=by simp; omega
        have t2':(mm==m)=false:=by simp [hm2]
        go_wp2
        go_roundg (259-(n+1))
        · exact ⟨n+1,by omega,by omega,rfl,by first | rfl | go_num,NEXT.out (fun h=>hm2 h.2),hU.then (hU2.alloc _)⟩
        · omega
    · have t1:((257:Int)+(i:Int)==(c:Int))=false:=by simp; omega
      go_wp2
      go_roundg (259-(n+1))
      · exact ⟨n+1,by omega,by omega,rfl,by first | rfl | go_num,NEXT.out (fun h=>hcc h.1),hU.then (hU2.alloc _)⟩
      · omega
  · have hnz : ¬ (n:Int)≤258:=by omega
    go_wp2
    go_returns
    refine ⟨?_,hU⟩
    rw [HR.out]
    rcases HM.out with h | ⟨v,hv,h1,h2,h3',h4,h5⟩
    · rw [h]; rfl
    · exact absurd ⟨by omega,h5⟩ (HN.out _ h2 (by omega) _ h4)
end Go.Proofs.YtfkcdnaghndgfaaGreatDoor
namespace Go.Proofs.YtfkcdnaghndgfaaGreatDoor
open Go.RowKit
def bAt:List Nat:=[1,2,3,4,5,7,9,13,17,25,33,49,65,97,129,193,257,385,513,769,1025,1537,2049,3073,4097,6145,8193,12289,16385,24577,32769]
theorem zeB : ∀ c:Fin 30,yJ (c.val:Nat)=max 0 (((c.val/2:Nat):Int)-1):=by decide +kernel
theorem za9 (c:Nat) (h:30≤c):yJ (c:Nat) = -1:=by unfold yJ zw; rw [if_pos (.inr (by omega))]
theorem zec : ∀ c:Fin 30,zw 2 4 30 (c.val:Nat) ≠ -1∧(2:Int)^(zw 2 4 30 (c.val:Nat)).toNat=((bAt.getD (c.val+1) 0-bAt.getD c.val 0:Nat):Int)∧ja 1 2 4 30 c.val=bAt.getD c.val 0∧bAt.getD c.val 0≤bAt.getD (c.val+1) 0∧bAt.getD (c.val+1) 0≤32769:=by decide +kernel
set_option maxRecDepth 100000 in
set_option maxHeartbeats 1600000 in
theorem YI (c:Nat) (w:World) (hc:c<300):Calls Tryz.prog 111 #[.int .i64 (c:Nat)] w fun e w'=>e = .returned (.int .i64 (yJ (c:Nat)))∧Upd [] w w':=by
 by_cases h:c≤29
 · have hf:=zeB ⟨c,by omega⟩
   have HF:=Lib.hid hf
   clear hf
   have t1:decide ((29:Int)<(c:Int))=false:=decide_eq_false (by omega)
   have t2:decide (29<c)=false:=decide_eq_false (by omega)
   have q1:(c:Int).tdiv 2=((c/2:Nat):Int):=by rw [Int.tdiv_eq_ediv_of_nonneg (by omega)]; omega
   have q1':(c:Int)/2=((c/2:Nat):Int):=by omega
   obtain ⟨d,hd⟩ : ∃ d,d=c/2:=⟨_,rfl⟩
   rw [← hd] at q1 q1'
   have HD:=Lib.hid hd
   have hd2:d≤14:=by omega
   clear hd
   have q2:IntKind.i64.wrap ((d:Int)-1)=(d:Int)-1:=IntWalk.i64_in _ (by omega)
   go_enter Tryz.func111,Tryz.ntmps111
   go_wp2
   go_returns
   refine ⟨?_,.refl _ _⟩
   rw [HF.out,← HD.out]
   rfl
 · have hf:=Lib.hid (za9 c (by omega))
   have t1:decide ((29:Int)<(c:Int))=true:=decide_eq_true (by omega)
   have t2:decide (29<c)=true:=decide_eq_true (by omega)
   go_enter Tryz.func111,Tryz.ntmps111
   go_wp2
   go_returns
   exact ⟨by rw [hf.out]; rfl,.refl _ _⟩
set_option maxRecDepth 100000 in
set_option maxHeartbeats 1600000 in
theorem We (c m:Nat) (w:World) (hc:c<300) (hm:m<1000000):Calls Tryz.prog 112 #[.int .i64 (c:Nat),.int .i64 (m:Nat)] w fun e w'=>e = .returned (jm (jY 1 2 4 30 (c:Nat) (m:Nat)))∧Upd [] w w':=by
 by_cases h:c≤29
 · obtain ⟨f1,f2,f3,f4,f5⟩:=zec ⟨c,by omega⟩
   dsimp only at f1 f2 f3 f4 f5
   have hget : ∀ j,j<31→bAt[j]? =some (bAt.getD j 0):=fun j h=>by rw [List.getD,List.getElem?_eq_getElem (show j<bAt.length from h)]; rfl
   have g1:=hget c (by omega)
   have g2:=hget (c+1) (by omega)
   have hn:jY 1 2 4 30 (c:Nat) (m:Nat)=if m<bAt.getD (c+1) 0-bAt.getD c 0 then some (bAt.getD c 0+m) else none:=by
    unfold jY
    rw [f2,Int.toNat_natCast,Int.toNat_natCast,f3]
    by_cases hlt:m<bAt.getD (c+1) 0-bAt.getD c 0
    · rw [if_neg (by omega),if_pos hlt]
    · rw [if_pos (by omega),if_neg hlt]
   have HN:=Lib.hid hn
   have G1:=Lib.hid g1
   have G2:=Lib.hid g2
   clear f1 f2 f3 g1 g2 hn hget
   generalize bAt.getD (c+1) 0=q at *
   generalize bAt.getD c 0=p at *
   have t1:decide ((29:Int)<(c:Int))=false:=decide_eq_false (by omega)
   have t2:decide (29<c)=false:=decide_eq_false (by omega)
   have hc31:(c:Int)<31:=by omega
   have hc32:(c:Int)+1<31:=by omega
   have hc0:(0:Int)≤(c:Int)+1:=by omega
   have e1:IntKind.i64.wrap ((q:Int)-(p:Int))=(q:Int)-(p:Int):=IntWalk.i64_in _ (by omega)
   have e2:IntKind.i64.wrap ((c:Int)+1)=(c:Int)+1:=IntWalk.i64_in _ (by omega)
   have e3:((c:Int)+1).toNat=c+1:=by omega
   have t4:decide ((c:Int)<0)=false:=decide_eq_false (by omega)
   have t5:decide ((m:Int)<0)=false:=decide_eq_false (by omega)
   have t6:(0:Int)≤(c:Int):=by omega
   go_enter Tryz.func112,Tryz.ntmps112
   go_upto_region 2 with fail
   have hB:=Blk.new w (zf bAt) 3
   have hU:Upd [] w (w.alloc (.cells (zf bAt).toArray 3)):=(Upd.refl [] w).alloc _
   change Code.wp _ _ _ _ (w.alloc (.cells (zf bAt).toArray 3))
   generalize w.alloc (.cells (zf bAt).toArray 3)=w1 at *
   have d1:=hB.cell c (zt _ _ _ G1.out)
   have d2:=hB.cell (c+1) (zt _ _ _ G2.out)
   clear hB
   have HU:=Lib.hid hU
   clear hU
   generalize w.heap.size=wb at *
   by_cases hlt:m<q-p
   · have t3:decide ((q:Int)-(p:Int)≤(m:Int))=false:=decide_eq_false (by omega)
     go_wp2
     go_quiet (fail)
     go_wp2
     go_returns
     exact ⟨by rw [HN.out,if_pos hlt]; rfl,HU.out.drewN _⟩
   · have t3:decide ((q:Int)-(p:Int)≤(m:Int))=true:=decide_eq_true (by omega)
     go_wp2
     go_quiet (fail)
     go_wp2
     go_returns
     exact ⟨by rw [HN.out,if_neg hlt]; rfl,HU.out.drewN _⟩
 · have hn:jY 1 2 4 30 (c:Nat) (m:Nat)=none:=by
    unfold jY
    rw [if_pos (.inl (by have:=za9 c (by omega); unfold yJ at this; exact this))]
   have HN:=Lib.hid hn
   clear hn
   have t1:decide ((29:Int)<(c:Int))=true:=decide_eq_true (by omega)
   have t2:decide (29<c)=true:=decide_eq_true (by omega)
   have t4:decide ((c:Int)<0)=false:=decide_eq_false (by omega)
   go_enter Tryz.func112,Tryz.ntmps112
   go_upto_region 2 with fail
   have hU:Upd [] w (w.alloc (.cells (zf bAt).toArray 3)):=(Upd.refl [] w).alloc _
   change Code.wp _ _ _ _ (w.alloc (.cells (zf bAt).toArray 3))
   generalize w.alloc (.cells (zf bAt).toArray 3)=w1 at *
   generalize w.heap.size=wb at *
   have HU:=Lib.hid hU
   clear hU
   go_wp2
   go_quiet (fail)
   go_wp2
   go_returns
   exact ⟨by rw [HN.out]; rfl,HU.out.drewN _⟩
end Go.Proofs.YtfkcdnaghndgfaaGreatDoor
namespace Go.Proofs.YtfkcdnaghndgfaaGreatDoor
open Go.RowKit
structure Agree (N:Nat) (s s':ByteArray):Prop where
 le:N≤s.size
 le':N≤s'.size
 eq:(za s).take N=(za s').take N
theorem ZF (a b:List Nat):zv (a++b)=zv a++zv b:=by simp [zv]
theorem vP (l:List Nat) (N:Nat) (h:N≤l.length):(zv l).take (8*N)=zv (l.take N):=by
 have e:zv l=zv (l.take N)++zv (l.drop N):=by rw [← ZF,List.take_append_drop]
 rw [e,List.take_left']
 rw [yN,List.length_take]; omega
theorem Agree.bits {N:Nat} {s s':ByteArray} (h:Agree N s s'):(vw s).take (8*N)=(vw s').take (8*N):=by
 unfold vw
 rw [vP _ _ (by rw [zc]; exact h.le),vP _ _ (by rw [zc]; exact h.le'),h.eq]
def Tr {α:Type} (N:Nat) (s':ByteArray) (r r':Except Nat (α×Nat)):Prop :=
 ∀ v a',r = .ok (v,a')→(a'≤8*N→r' = .ok (v,a'))∧(N=s'.size→8*N<a'→r' = .error 3)
theorem Tr.bind {α β:Type} {N:Nat} {s':ByteArray} {x x':Except Nat (α×Nat)} {f f':α×Nat→Except Nat (β×Nat)} (hx:Tr N s' x x')
 (hf : ∀ v a1,x = .ok (v,a1)→a1≤8*N→Tr N s' (f (v,a1)) (f' (v,a1))) (hm : ∀ v a1 u a2,x = .ok (v,a1)→f (v,a1) = .ok (u,a2)→a1≤a2):Tr N s' (x >>= f) (x' >>= f'):=by
 intro u a2 h
 obtain ⟨⟨v,a1⟩,h1,h2⟩:=ym h
 have hle:=hm v a1 u a2 h1 h2
 obtain ⟨e1,e2⟩:=hx v a1 h1
 by_cases hc:a1≤8*N
 · rw [e1 hc]
   exact hf v a1 h1 hc u a2 h2
 · refine ⟨fun h=>by omega,fun hN _=>?_⟩
   rw [e2 hN (by omega)]; rfl
theorem Tr.map {α β:Type} {N:Nat} {s':ByteArray} {x x':Except Nat (α×Nat)} {f:α×Nat→β×Nat} (hx:Tr N s' x x') (hf : ∀ r,(f r).2=r.2):Tr N s' (x.map f) (x'.map f):=by
 intro u a2 h
 obtain ⟨⟨v,a1⟩,h1,h2⟩:=VZ h
 obtain ⟨e1,e2⟩:=hx v a1 h1
 have:=hf (v,a1)
 rw [h2] at this
 simp only at this
 subst this
 refine ⟨fun h=>?_,fun hN hlt=>?_⟩
 · rw [e1 h]; show Except.ok (f (v,a2))=_; rw [h2]
 · rw [e2 hN hlt]; rfl
section
variable {N:Nat} {s s':ByteArray} (hA:Agree N s s')
include hA
end
end Go.Proofs.YtfkcdnaghndgfaaGreatDoor
namespace Go.Proofs.YtfkcdnaghndgfaaGreatDoor
open Go.RowKit
theorem Tr.pure {α:Type} {N:Nat} {s':ByteArray} {v:α} {a:Nat} (ha:a≤8*N):Tr N s' (.ok (v,a)) (.ok (v,a)):=by
 intro u a2 h
 cases h
 exact ⟨fun _=>rfl,fun _ h=>by omega⟩
section
variable {N:Nat} {s s':ByteArray} (hA:Agree N s s')
include hA
omit hA in
theorem Vm (l:List Int) (t:ByteArray) (many f:Nat) (L:List Nat) (a:Nat) (h:L.length<many):qi l t many (f+1) L a=yc l t a >>= fun r=>xS t r.1 L r.2 >>= fun q=>if q.1.1≤many-L.length then qi l t many f (L++List.replicate q.1.1 q.1.2) q.2 else .error 2:=by
 simp only [qi]
 rw [if_pos h]
 cases yc l t a with
 | error c=>rfl
 | ok r =>
   show (match xS t r.1 L r.2 with | .error c=>_ | .ok q=>_)=(xS t r.1 L r.2 >>= _)
   cases xS t r.1 L r.2 with
   | error c=>rfl
   | ok q=>rfl
omit hA in
theorem WL (t:ByteArray) (m i:Nat) (L:List Nat) (a:Nat):xh t (m+1) i L a=zp t a 3 >>= fun r=>xh t m (i+1) (L.set (yn.getD i 0) r.1) r.2:=by
 simp only [xh]
 cases zp t a 3<;>rfl
end
end Go.Proofs.YtfkcdnaghndgfaaGreatDoor
namespace Go.Proofs.YtfkcdnaghndgfaaGreatDoor
open Go.RowKit
def Rm {α:Type} (len:α→Nat) (m:Nat) (r r':Except Nat α):Prop := ∀ v,r = .ok v→(len v≤m→r' = .ok v)∧(m<len v→r' = .error 4)
theorem Rm.pure {α:Type} {len:α→Nat} {m:Nat} {v:α} (h:len v≤m):Rm len m (.ok v) (.ok v):=fun u e=>by cases e; exact ⟨fun _=>rfl,fun h=>by omega⟩
theorem Rm.same {α β:Type} {len:β→Nat} {m:Nat} {x:Except Nat α} {f f':α→Except Nat β} (h : ∀ v,x = .ok v→Rm len m (f v) (f' v)):Rm len m (x >>= f) (x >>= f'):=by
 intro u e
 obtain ⟨v,h1,h2⟩:=ym e
 rw [h1]
 exact h v h1 u h2
theorem Rm.bind {α β:Type} {len:α→Nat} {len':β→Nat} {m:Nat} {x x':Except Nat α} {f f':α→Except Nat β} (hx:Rm len m x x') (hf : ∀ v,x = .ok v→len v≤m→Rm len' m (f v) (f' v))
 (hm : ∀ v u,x = .ok v→f v = .ok u→len v≤len' u):Rm len' m (x >>= f) (x' >>= f'):=by
 intro u e
 obtain ⟨v,h1,h2⟩:=ym e
 have hle:=hm v u h1 h2
 obtain ⟨e1,e2⟩:=hx v h1
 by_cases hc:len v≤m
 · rw [e1 hc]; exact hf v h1 hc u h2
 · refine ⟨fun h=>by omega,fun _=>?_⟩
   rw [e2 (by omega)]; rfl
end Go.Proofs.YtfkcdnaghndgfaaGreatDoor
namespace Go.Proofs.YtfkcdnaghndgfaaGreatDoor
open Go.RowKit
def Er {α:Type} (r:Except Nat α):Prop := ∀ c,r = .error c→2≤c∧c≤4
theorem Er.ok {α:Type} {v:α}:Er (.ok v:Except Nat α):=fun c h=>by cases h
theorem Er.error {α:Type} {k:Nat} (h:2≤k∧k≤4):Er (.error k:Except Nat α):=fun c e=>by cases e; exact h
theorem Er.bind {α β:Type} {x:Except Nat α} {f:α→Except Nat β} (hx:Er x) (hf : ∀ v,x = .ok v→Er (f v)):Er (x >>= f):=by
 intro c e
 cases hc:x with
 | error k=>rw [hc] at e; cases e; exact hx _ hc
 | ok v=>rw [hc] at e; exact hf v hc c e
theorem Er.map {α β:Type} {x:Except Nat α} {f:α→β} (hx:Er x):Er (x.map f):=by
 intro c e
 cases hc:x with
 | error k=>rw [hc] at e; cases e; exact hx _ hc
 | ok v=>rw [hc] at e; cases e
theorem jE {s:ByteArray} {a n:Nat}:Er (zp s a n):=by
 unfold zp; split
 · exact Er.ok
 · exact Er.error (by omega)
theorem zfp {l:List Int} {s:ByteArray} {a:Nat}:Er (yc l s a):=by
 unfold yc; split
 · exact Er.error (by omega)
 · split
   · exact Er.ok
   · exact Er.error (by omega)
   · exact Er.error (by omega)
theorem zia {s:ByteArray} {k:Nat} {L:List Nat} {a:Nat}:Er (xS s k L a):=by
 unfold xS; split
 · unfold xa; split
   · split
     · exact Er.error (by omega)
     · exact jE.map
   · split
     · exact jE.map
     · exact jE.map
 · exact Er.ok
theorem zhe {l:List Int} {s:ByteArray} {many:Nat} : ∀ (f:Nat) (L:List Nat) (a:Nat),Er (qi l s many f L a):=by
 intro f
 induction f with
 | zero=>intro L a; exact Er.ok
 | succ f ih =>
   intro L a
   by_cases hc:L.length<many
   · rw [Vm _ _ _ _ _ _ hc]
     refine zfp.bind fun r _=>zia.bind fun q _=>?_
     split
     · exact ih _ _
     · exact Er.error (by omega)
   · rw [Yv hc]; exact Er.ok
theorem zdT {s:ByteArray} : ∀ (m i:Nat) (L:List Nat) (a:Nat),Er (xh s m i L a):=by
 intro m
 induction m with
 | zero=>intro i L a; exact Er.ok
 | succ m ih=>intro i L a; rw [WL]; exact jE.bind fun r _=>ih _ _ _
theorem zce {s:ByteArray} {a:Nat}:Er (yT s a):=by
 unfold yT
 refine jE.bind fun r1 _=>jE.bind fun r2 _=>jE.bind fun r3 _=>?_
 unfold xr; split
 · refine (zdT _ _ _ _).bind fun r4 _=>?_
   unfold qB; split
   · refine (zhe _ _ _).bind fun r5 _=>?_
     unfold kp; split
     · split
       · exact Er.ok
       · exact Er.error (by omega)
     · exact Er.error (by omega)
   · exact Er.error (by omega)
 · exact Er.error (by omega)
end Go.Proofs.YtfkcdnaghndgfaaGreatDoor
namespace Go.Proofs.YtfkcdnaghndgfaaGreatDoor
open Go.RowKit
set_option maxHeartbeats 1600000 in
theorem ZD (b:Nat) (w:World) (s:ByteArray) (a:Nat) (bad:Bool) (hR:RdAt w b 103 s a bad) (hs:s.size≤1099511627776) :
 Calls Tryz.prog 102 #[.pointer (some ⟨b,0,none⟩)] w
  (vr w b 103 s (.tuple #[]) (xA a bad) bad):=by
 cases bad with
 | true =>
   have h2:=hR.1.cell 2 rfl
   go_enter Tryz.func102,Tryz.ntmps102
   go_wp2
   refine wp_loop_rounds 1 ?_
   rw [rounds_succ]
   go_wp2
   go_returns
   exact ⟨rfl,hR,.refl _ _⟩
 | false =>
   have hal:xA a false=8*((a+7)/8):=rfl
   have hle:=hR.2
   rw [hal]
   go_enter Tryz.func102,Tryz.ntmps102
   go_wp2
   go_loopg [] (8*((a+7)/8)-a) (fun g wr => ∃ j,a+j≤8*((a+7)/8)∧g=8*((a+7)/8)-a-j∧Qn w b 103 s (a+j) wr)
   case atStart=>exact ⟨0,by omega,rfl,hR,.refl _ _⟩
   case round =>
    obtain ⟨j,hj,rfl,hRr,hU⟩:=hrel
    have k1:=hRr.1.cell 1 rfl
    have k2:=hRr.1.cell 2 rfl
    have g1:=hRr.1.frz 1
    obtain ⟨c,hc⟩ : ∃ c,c=a+j:=⟨_,rfl⟩
    rw [← hc] at k1
    have HC:=Lib.hid hc
    clear hc
    by_cases hm:(a+j)%8=0
    · have hcz:(c:Int)%8=0:=by have:=HC.out; omega
      have hfin:a+j=8*((a+7)/8):=by omega
      rw [hfin] at hRr
      have hb2:c≤8796093022208:=by have:=HC.out; omega
      clear hm hfin hj
      go_wp2
      go_returns
      exact ⟨rfl,hRr,hU⟩
    · have hcz:((c:Int)%8==0)=false:=by simp; have:=HC.out; omega
      have hcz2:((c:Int)%8 != 0)=true:=by simp; have:=HC.out; omega
      have hb2:c≤8796093022208:=by have:=HC.out; omega
      go_wp2
      go_roundg (8*((a+7)/8)-a-(j+1))
      case measure=>omega
      case rel =>
       refine ⟨j+1,by omega,rfl,?_,hU.setCell (.inl (by simp)) _⟩
       have e:(c:Int)+1=((a+(j+1):Nat):Int):=by have:=HC.out; omega
       rw [e]
       exact ⟨hRr.1.set 1 _,by omega⟩
set_option maxRecDepth 100000 in
set_option maxHeartbeats 3200000 in
theorem zbx (b:Nat) (n:Int) (w:World) (s:ByteArray) (a:Nat) (bad:Bool) (hR:RdAt w b 103 s a bad) (hs:s.size≤1099511627776) :
 Calls Tryz.prog 104 #[.pointer (some ⟨b,0,none⟩),.int .i64 n] w
  (vr w b 103 s (.string (xu s a bad n)) (jw s a bad n) (xw s a bad n)):=by
 have HA:=Lib.hid (ZD b w s a bad hR hs)
 have hal:=Km s a bad hR.2
 cases bad with
 | true =>
   have e1:xw s a true n=true:=rfl
   have e2:xu s a true n=⟨#[]⟩:=rfl
   have e3:jw s a true n=xA a true:=rfl
   rw [e1,e2,e3]
   generalize xA a true=a1 at *
   go_enter Tryz.func104,Tryz.ntmps104
   go_wp2_with fail
   refine HA.out.mono ?_
   rintro e w' ⟨rfl,hR1,hU1⟩
   have k2:=hR1.1.cell 2 rfl
   have f2:=hR1.1.frz 2
   go_wp2
   go_quiet (fail)
   go_wp2
   go_returns
   exact ⟨rfl,⟨(hR1.1.drewN _).set 2 _,hR1.2⟩,(hU1.drewN _).setCell (.inl (by simp)) _⟩
 | false =>
   have hq:(a+7)/8≤s.size:=by have:=hR.2; omega
   have ha1:xA a false=8*((a+7)/8):=rfl
   have HBD:=Lib.hid (fun (h:xw s a false n=true)=>(show xu s a false n=⟨#[]⟩∧jw s a false n=xA a false by unfold xu jw; rw [if_pos h,if_pos h]; exact ⟨rfl,rfl⟩))
   have HGD:=Lib.hid (fun (h:xw s a false n=false)=>(show xu s a false n=s.extract ((a+7)/8) ((a+7)/8+n.toNat)∧jw s a false n=8*((a+7)/8)+8*n.toNat by unfold xu jw; rw [if_neg (by rw [h]; decide),if_neg (by rw [h]; decide)]; exact ⟨rfl,rfl⟩))
   have hTB:xw s a false n=(decide (n<0)||decide (((s.size-(a+7)/8:Nat):Int)<n)):=by simp [xw]
   generalize (a+7)/8=q at *
   have HQ:=Lib.hid ha1
   clear ha1
   generalize xA a false=a1 at *
   have hdv2:((a1:Nat):Int)/8=(q:Int):=by have:=HQ.out; omega
   have ha1b:a1≤8796093022208:=by omega
   cases hb:xw s a false n with
   | true =>
     obtain ⟨e1,e2⟩:=HBD.out hb
     rw [e1,e2]
     rw [hTB] at hb
     simp only [Bool.or_eq_true,decide_eq_true_eq] at hb
     clear e1 e2 hTB HBD HGD
     by_cases hn:n<0
     · have d1:decide (n<0)=true:=by simpa using hn
       clear hb
       go_enter Tryz.func104,Tryz.ntmps104
       go_wp2_with fail
       refine HA.out.mono ?_
       rintro e w' ⟨rfl,hR1,hU1⟩
       have k2:=hR1.1.cell 2 rfl
       have f2:=hR1.1.frz 2
       go_wp2
       go_quiet (fail)
       go_wp2
       go_returns
       exact ⟨rfl,⟨(hR1.1.drewN _).set 2 _,hR1.2⟩,(hU1.drewN _).setCell (.inl (by simp)) _⟩
     · have d1:decide (n<0)=false:=by simpa using hn
       have hn2:(s.size:Int)-(q:Int)<n:=by omega
       have d2:decide ((s.size:Int)-(q:Int)<n)=true:=by simpa using hn2
       clear hb
       go_enter Tryz.func104,Tryz.ntmps104
       go_wp2_with fail
       refine HA.out.mono ?_
       rintro e w' ⟨rfl,hR1,hU1⟩
       have kA:=hR1.1.all
       have k2:=hR1.1.cell 2 rfl
       have f2:=hR1.1.frz 2
       go_wp2
       go_quiet (fail)
       go_wp2
       go_returns
       exact ⟨rfl,⟨(hR1.1.drewN _).set 2 _,hR1.2⟩,(hU1.drewN _).setCell (.inl (by simp)) _⟩
   | false =>
     obtain ⟨e1,e2⟩:=HGD.out hb
     rw [e1,e2]
     rw [hTB] at hb
     simp only [Bool.or_eq_false_iff,decide_eq_false_iff_not] at hb
     obtain ⟨hn0,hn1⟩:=hb
     obtain ⟨N,rfl⟩ : ∃ N:Nat,n=(N:Int):=⟨n.toNat,by omega⟩
     have hN:q+N≤s.size:=by omega
     have hNz:(q:Int)+(N:Int)≤(s.size:Int):=by omega
     rw [Int.toNat_natCast]
     have d1:decide ((N:Int)<0)=false:=by simp
     have d2:decide ((s.size:Int)-(q:Int)<(N:Int))=false:=by simp; omega
     clear e1 e2 hTB HBD HGD hn0 hn1
     go_enter Tryz.func104,Tryz.ntmps104
     go_wp2_with fail
     refine HA.out.mono ?_
     rintro e w' ⟨rfl,hR1,hU1⟩
     have kA:=hR1.1.all
     have k2:=hR1.1.cell 2 rfl
     have f1:=hR1.1.frz 1
     go_wp2
     go_quiet (fail)
     go_wp2
     go_quiet (fail)
     go_wp2
     go_returns
     have e:(a1:Int)+8*(N:Int)=((8*q+8*N:Nat):Int):=by have:=HQ.out; omega
     rw [e]
     exact ⟨rfl,⟨(hR1.1.drewN _).set 1 _,by omega⟩,(hU1.drewN _).setCell (.inl (by simp)) _⟩
end Go.Proofs.YtfkcdnaghndgfaaGreatDoor
