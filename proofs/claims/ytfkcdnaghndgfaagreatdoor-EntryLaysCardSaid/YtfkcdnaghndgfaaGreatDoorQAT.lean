/- The codes of lengths and distances, as they are listed; swingleref06.Long, Back: walks. -/
import Derived.Lib.MinMax
import Derived.Test.YtfkcdnaghndgfaaGreatDoorQAC
import Derived.Test.YtfkcdnaghndgfaaGreatDoorQAG
import Derived.Test.YtfkcdnaghndgfaaGreatDoorQAH
set_option linter.unusedVariables false
set_option linter.unusedSimpArgs false
set_option linter.unusedSectionVars false
namespace Go.Proofs.YtfkcdnaghndgfaaGreatDoor
open Go.RowKit
theorem ZG {P:Program} {fn:Func} {p u:Tmp} {ty:TypeId} (h:fn.results = #[.cell p ty,.tmp u]) (tmps:Array Value) (w:World) (g:Nat) (t:TypeId) (cs:Array Value) (fr:Nat×Nat) (d:TypeDesc) (v:Value)
 (hp:tmps.getD p undef = .pointer (some ⟨g,0,none⟩)) (hv:tmps.getD u undef=v) (hg:w.heap[g]? =some (.cells cs t fr))
 (hu:P.underlying ty=some d) (hd:(match d with | .struct _ | .array _ _=>true | _=>false)=true) (hi:(P.info? ty).map (·.size)=some cs.size) :
 (results fn tmps).run P w = .ok (.tuple #[.agg cs,v]) w:=by
 rw [results_cell_tmp h,hp,hv]
 simp [asAddr,run_loadVar_row w g t ty cs fr d hg hu hd hi,Result.andThen]
theorem zjj:(Tryz.prog.info? 198).map (·.size)=some 3:=by kernel_rfl
def lAt:List Nat:=[3,4,5,6,7,8,9,10,11,13,15,17,19,23,27,31,35,43,51,59,67,83,99,115,131,163,195,227,258,259]
def yO:List Nat:=[0,0,0,0,0,0,0,0,1,1,1,1,2,2,2,2,3,3,3,3,4,4,4,4,5,5,5,5,0]
def isL (n i:Nat):Prop:=lAt.getD i 0≤n∧n<lAt.getD (i+1) 0
instance (n i:Nat):Decidable (isL n i):=by unfold isL; infer_instance
def zF (n:Nat):Nat→Nat→Option Nat
 | 0,_=>none
 | m+1,i=>if isL n i then some i else zF n m (i+1)
theorem zet : ∀ n:Fin 259,3≤n.val→(zF n.val 29 0).isSome=true:=by decide +kernel
def Qb (i n:Nat):Value := .agg #[.int .i64 ((257+i:Nat):Int),.int .i64 (yO.getD i 0:Nat),.int .i64 ((n-lAt.getD i 0:Nat):Int)]
set_option maxRecDepth 100000 in
set_option maxHeartbeats 3200000 in
theorem Ve (n:Nat) (w:World) (h3:3≤n) (h258:n≤258) :
 Calls Tryz.prog 146 #[.int .i64 (n:Nat)] w fun e w' => ∃ i,zF n 29 0=some i∧e = .returned (.tuple #[Qb i n,.bool true])∧Upd [] w w':=by
 have hall:=zet ⟨n,by omega⟩ h3
 have HF:=Lib.hid hall
 clear hall
 go_enter Tryz.func146,Tryz.ntmps146
 go_wp2
 obtain ⟨w2,hw2⟩ : ∃ w2,w2=((w.alloc (Obj.cells #[.int .i64 0,.int .i64 0,.int .i64 0] 198)).alloc (Obj.cells (zg lAt).toArray 3)).alloc (Obj.cells (zg yO).toArray 3):=⟨_,rfl⟩
 change Code.wp _ _ _ _ (((w.alloc (Obj.cells #[.int .i64 0,.int .i64 0,.int .i64 0] 198)).alloc (Obj.cells (zg lAt).toArray 3)).alloc (Obj.cells (zg yO).toArray 3))
 have hU2:Upd [] w w2:=by rw [hw2]; exact (((Upd.refl [] w).alloc _).alloc _).alloc _
 have hS:Blk w2 w.heap.size [.int .i64 0,.int .i64 0,.int .i64 0] 198:=by rw [hw2]; exact ((Blk.new w [.int .i64 0,.int .i64 0,.int .i64 0] 198).alloc _).alloc _
 have hA:Blk w2 (w.heap.size+1) (zg lAt) 3:=by
  have h:=(Blk.new (w.alloc (Obj.cells #[.int .i64 0,.int .i64 0,.int .i64 0] 198)) (zg lAt) 3).alloc (Obj.cells (zg yO).toArray 3)
  rw [World.size_alloc] at h
  rw [hw2]; exact h
 have hB:Blk w2 (w.heap.size+1+1) (zg yO) 3:=by
  have h:=Blk.new ((w.alloc (Obj.cells #[.int .i64 0,.int .i64 0,.int .i64 0] 198)).alloc (Obj.cells (zg lAt).toArray 3)) (zg yO) 3
  rw [World.size_alloc,World.size_alloc] at h
  rw [hw2]; exact h
 rw [← hw2]
 clear hw2
 go_loopg [6,11] 29 (fun g s6 s11 wr => ∃ i,i≤29∧g=29-i∧s11 = .int .i64 (i:Nat)∧Hid (zF n 29 0=zF n (29-i) i)∧w2=wr)
 case atStart=>exact ⟨0,by omega,rfl,rfl,Lib.hid rfl,rfl⟩
 case round =>
  obtain ⟨i,hi,rfl,rfl,HL,rfl⟩:=hrel
  by_cases hc:i<29
  · have hcz:(i:Int)<29:=by omega
    have hst:zF n (29-i) i=if isL n i then some i else zF n (29-(i+1)) (i+1):=by
     rw [show 29-i=(29-(i+1))+1 by omega]; rfl
    have HST:=Lib.hid hst
    clear hst
    have hget : ∀ (l:List Nat) (j:Nat),j<l.length→l[j]? =some (l.getD j 0):=fun l j h=>by rw [List.getD,List.getElem?_eq_getElem h]; rfl
    have d1:=hA.cell i (zC _ _ _ (hget lAt i (by show i<30; omega)))
    have d2:=hA.cell (i+1) (zC _ _ _ (hget lAt (i+1) (by show i+1<30; omega)))
    have d3:=hB.cell i (zC _ _ _ (hget yO i (by show i<29; omega)))
    have s0:=hS.cell 0 rfl
    have fA:=hS.frz
    have sA:=hS.all
    clear hget
    have HIL:=Lib.hid (show isL n i↔lAt.getD i 0≤n∧n<lAt.getD (i+1) 0 from Iff.rfl)
    have HLV:=Lib.hid (show Qb i n = .agg #[.int .i64 ((257+i:Nat):Int),.int .i64 (yO.getD i 0:Nat),.int .i64 ((n-lAt.getD i 0:Nat):Int)] from rfl)
    generalize lAt.getD i 0=p at *
    generalize lAt.getD (i+1) 0=q at *
    generalize yO.getD i 0=bb at *
    have hi30:(i:Int)<30:=by omega
    have hi31:(i:Int)+1<30:=by omega
    have hi01:(0:Int)≤(i:Int)+1:=by omega
    by_cases hp:p≤n
    · have t1:decide ((p:Int)≤(n:Int))=true:=decide_eq_true (by omega)
      have t1':decide (p≤n)=true:=decide_eq_true hp
      have hpz:(p:Int)≤(n:Int):=by omega
      by_cases hq:n<q
      · have t2:decide ((n:Int)<(q:Int))=true:=decide_eq_true (by omega)
        have t2':decide (n<q)=true:=decide_eq_true hq
        have hqz:(n:Int)<(q:Int):=by omega
        have e1:IntKind.i64.wrap ((n:Int)-(p:Int))=((n-p:Nat):Int):=by rw [IntWalk.i64_in _ (by omega)]; omega
        have e2:IntKind.i64.wrap (257+(i:Int))=((257+i:Nat):Int):=by rw [IntWalk.i64_in _ (by omega)]; omega
        go_wp2
        go_region_law (fail)
        all_goals go_wp2
        all_goals (
         have hB9:=((hS.set 0 (.int .i64 (257+(i:Int)))).set 1 (.int .i64 (bb:Nat))).set 2 (.int .i64 ((n-p:Nat):Int))
         refine bodyPost_ret (ZG rfl _ _ w.heap.size _ _ _ _ (.bool true) (by simp [Act.put]) (by simp [Act.put]) hB9 Tryz.underlying198 rfl (by rw [zjj]; rfl)) (by simp [Act.put]) ⟨i,?_,?_,?_⟩
         · rw [HL.out,HST.out,if_pos (HIL.out.2 ⟨hp,hq⟩)]
         · rw [HLV.out]; rfl
         · exact (((hU2.setCell (.inr (Nat.le_refl _)) _).setCell (.inr (Nat.le_refl _)) _).setCell (.inr (Nat.le_refl _)) _).drew)
      · have t2:decide ((n:Int)<(q:Int))=false:=decide_eq_false (by omega)
        have t2':decide (n<q)=false:=decide_eq_false hq
        go_wp2
        go_roundg (29-(i+1))
        · exact ⟨i+1,by omega,rfl,by first | rfl | go_num,Lib.hid (by rw [HL.out,HST.out,if_neg (fun h=>hq (HIL.out.1 h).2)]),rfl⟩
        · omega
    · have t1:decide ((p:Int)≤(n:Int))=false:=decide_eq_false (by omega)
      have t1':decide (p≤n)=false:=decide_eq_false hp
      go_wp2
      go_roundg (29-(i+1))
      · exact ⟨i+1,by omega,rfl,by first | rfl | go_num,Lib.hid (by rw [HL.out,HST.out,if_neg (fun h=>hp (HIL.out.1 h).1)]),rfl⟩
      · omega
  · exfalso
    have h1:=HL.out
    rw [show 29-i=0 by omega] at h1
    have h2:=HF.out
    rw [h1] at h2
    cases h2
def dAt:List Nat:=[1,2,3,4,5,7,9,13,17,25,33,49,65,97,129,193,257,385,513,769,1025,1537,2049,3073,4097,6145,8193,12289,16385,24577,32769]
def dBt (i:Nat):Nat:=i/2-1
def isD (n i:Nat):Prop:=dAt.getD i 0≤n∧n<dAt.getD (i+1) 0
instance (n i:Nat):Decidable (isD n i):=by unfold isD; infer_instance
def qi (n:Nat):Nat→Nat→Option Nat
 | 0,_=>none
 | m+1,i=>if isD n i then some i else qi n m (i+1)
theorem JK (n m i:Nat):qi n (m+1) i=if isD n i then some i else qi n m (i+1):=rfl
theorem zab (n:Nat) : ∀ m i,dAt.getD i 0≤n→n<dAt.getD (i+m) 0 → ∃ r,qi n m i=some r∧i≤r∧r<i+m
 | 0,i,h1,h2=>by rw [Nat.add_zero] at h2; omega
 | m+1,i,h1,h2=>by
   rw [JK]
   by_cases h:isD n i
   · exact ⟨i,by rw [if_pos h],by omega,by omega⟩
   · rw [if_neg h]
     have h3:dAt.getD (i+1) 0≤n:=by
      unfold isD at h
      omega
     obtain ⟨r,r1,r2,r3⟩:=zab n m (i+1) h3 (by rw [show i+1+m=i+(m+1) by omega]; exact h2)
     exact ⟨r,r1,by omega,by omega⟩
theorem qG (n:Nat) (h1:1≤n) (h2:n≤32768) : ∃ r,qi n 30 0=some r∧r<30:=by
 obtain ⟨r,r1,_,r3⟩:=zab n 30 0 h1 (by show n<32769; omega)
 exact ⟨r,r1,by omega⟩
def XH (i n:Nat):Value := .agg #[.int .i64 (i:Nat),.int .i64 (dBt i:Nat),.int .i64 ((n-dAt.getD i 0:Nat):Int)]
end Go.Proofs.YtfkcdnaghndgfaaGreatDoor
namespace Go.Proofs.YtfkcdnaghndgfaaGreatDoor
open Go.RowKit
instance (n i:Nat):Decidable (isL n i):=by unfold isL; infer_instance
theorem zfE : ∀ n:Fin 259,3≤n.val→yA ((257+(zF n.val 29 0).getD 0:Nat):Int)=((yO.getD ((zF n.val 29 0).getD 0) 0:Nat):Int):=by decide +kernel
theorem zeq : ∀ c:Fin 300,yA (c.val:Nat) = -1∨(257≤c.val∧3≤lAt.getD (c.val-257) 0∧lAt.getD (c.val-257) 0≤258∧zF (lAt.getD (c.val-257) 0) 29 0=some (c.val-257)):=by decide +kernel
theorem zi8 : ∀ n:Fin 259,3≤n.val→qn ((257+(zF n.val 29 0).getD 0:Nat):Int) ((n.val-lAt.getD ((zF n.val 29 0).getD 0) 0:Nat):Int)=some n.val:=by decide +kernel
theorem zg7 : ∀ c:Fin 300,∀ m:Fin 32,qn (c.val:Nat) (m.val:Nat)=none∨((qn (c.val:Nat) (m.val:Nat)).isSome=true∧(qn (c.val:Nat) (m.val:Nat)).getD 0<259∧3≤(qn (c.val:Nat) (m.val:Nat)).getD 0∧257≤c.val ∧
 zF ((qn (c.val:Nat) (m.val:Nat)).getD 0) 29 0=some (c.val-257)∧(qn (c.val:Nat) (m.val:Nat)).getD 0-lAt.getD (c.val-257) 0=m.val):=by decide +kernel
theorem zh5 (c:Fin 300) (m:Fin 32):qn (c.val:Nat) (m.val:Nat)=none ∨ ∃ v:Nat,v<259∧qn (c.val:Nat) (m.val:Nat)=some v∧3≤v∧257≤c.val∧zF v 29 0=some (c.val-257)∧v-lAt.getD (c.val-257) 0=m.val:=by
 rcases zg7 c m with h | ⟨h0,h1,h2,h3,h4,h5⟩
 · exact .inl h
 · obtain ⟨v,hv⟩:=Option.isSome_iff_exists.1 h0
   rw [hv] at h1 h2 h4 h5
   exact .inr ⟨v,h1,hv,h2,h3,h4,h5⟩
set_option maxRecDepth 100000 in
set_option maxHeartbeats 3200000 in
theorem YF (c:Nat) (w:World) (hc:c<300):Calls Tryz.prog 108 #[.int .i64 (c:Nat)] w fun e w'=>e = .returned (.int .i64 (yA (c:Nat)))∧Upd [] w w':=by
 have HM:=Lib.hid (zeq ⟨c,hc⟩)
 have HB:=Lib.hid (show yA (c:Nat)=yA (c:Nat) from rfl)
 obtain ⟨r,hr⟩ : ∃ r,r=yA (c:Nat):=⟨_,rfl⟩
 have HR:=Lib.hid hr
 rw [← hr]
 clear hr HB
 go_enter Tryz.func108,Tryz.ntmps108
 go_wp2
 go_loopg [3] 256 (fun g s3 wr => ∃ n,3≤n∧n≤259∧g=259-n∧s3 = .int .i64 (n:Nat)∧Hid (∀ j,3≤j→j<n → ∀ i,zF j 29 0=some i→257+i≠c)∧Upd [] w wr)
 case atStart=>exact ⟨3,by omega,by omega,rfl,rfl,Lib.hid (fun j h1 h2=>by omega),.refl _ _⟩
 case round =>
  obtain ⟨n,h3,h259,rfl,rfl,HN,hU⟩:=hrel
  by_cases hn:n≤258
  · have hnz:(n:Int)≤258:=by omega
    have HL:=Lib.hid (Ve n wr h3 hn)
    go_wp2_with fail
    refine HL.out.mono ?_
    rintro e w2 ⟨i,hi,rfl,hU2⟩
    have hbh:=zfE ⟨n,by omega⟩ h3
    dsimp only at hbh
    rw [hi] at hbh
    simp only [Option.getD_some] at hbh
    have HBH:=Lib.hid hbh
    have HI:=Lib.hid hi
    clear hbh hi
    unfold Qb
    generalize yO.getD i 0=bb at *
    generalize n-lAt.getD i 0=mm at *
    by_cases hcc:257+i=c
    · have t1:((257:Int)+(i:Int)==(c:Int))=true:=by simp; omega
      go_wp2
      go_returns
      refine ⟨?_,hU.then (hU2.alloc _)⟩
      rw [HR.out,← hcc,HBH.out]; rfl
    · have t1:((257:Int)+(i:Int)==(c:Int))=false:=by simp; omega
      go_wp2
      go_roundg (259-(n+1))
      · refine ⟨n+1,by omega,by omega,rfl,by first | rfl | go_num,Lib.hid ?_,hU.then (hU2.alloc _)⟩
        intro j h1 h2 i' hj
        by_cases hjn:j<n
        · exact HN.out j h1 hjn i' hj
        · have:j=n:=by omega
          subst this
          rw [HI.out] at hj
          cases hj
          exact hcc
      · omega
  · have hnz : ¬ (n:Int)≤258:=by omega
    go_wp2
    go_returns
    refine ⟨?_,hU⟩
    rw [HR.out]
    rcases HM.out with h | ⟨h1,h2,h3',h4⟩
    · rw [h]; rfl
    · exact absurd (by omega) (HN.out _ h2 (by omega) _ h4)
set_option maxRecDepth 100000 in
set_option maxHeartbeats 3200000 in
theorem zaV (c m:Nat) (w:World) (hc:c<300) (hm:m<32):Calls Tryz.prog 109 #[.int .i64 (c:Nat),.int .i64 (m:Nat)] w fun e w'=>e = .returned (Yc (qn (c:Nat) (m:Nat)))∧Upd [] w w':=by
 have HM:=Lib.hid (zh5 ⟨c,hc⟩ ⟨m,hm⟩)
 obtain ⟨r,hr⟩ : ∃ r,r=qn (c:Nat) (m:Nat):=⟨_,rfl⟩
 have HR:=Lib.hid hr
 rw [← hr]
 clear hr
 go_enter Tryz.func109,Tryz.ntmps109
 go_wp2
 go_loopg [6] 256 (fun g s6 wr => ∃ n,3≤n∧n≤259∧g=259-n∧s6 = .int .i64 (n:Nat)∧Hid (∀ j,3≤j→j<n → ∀ i,zF j 29 0=some i → ¬ (257+i=c∧j-lAt.getD i 0=m))∧Upd [] w wr)
 case atStart=>exact ⟨3,by omega,by omega,rfl,rfl,Lib.hid (fun j h1 h2=>by omega),.refl _ _⟩
 case round =>
  obtain ⟨n,h3,h259,rfl,rfl,HN,hU⟩:=hrel
  by_cases hn:n≤258
  · have hnz:(n:Int)≤258:=by omega
    have HL:=Lib.hid (Ve n wr h3 hn)
    go_wp2_with fail
    refine HL.out.mono ?_
    rintro e w2 ⟨i,hi,rfl,hU2⟩
    have hbh:=zi8 ⟨n,by omega⟩ h3
    dsimp only at hbh
    rw [hi] at hbh
    simp only [Option.getD_some] at hbh
    have HBH:=Lib.hid hbh
    have HI:=Lib.hid hi
    clear hbh hi
    unfold Qb
    generalize yO.getD i 0=bb at *
    obtain ⟨mm,hmm⟩ : ∃ mm,mm=n-lAt.getD i 0:=⟨_,rfl⟩
    rw [← hmm] at HBH ⊢
    have HMM:=Lib.hid hmm
    clear hmm
    have next : ¬ (257+i=c∧mm=m)→Hid (∀ j,3≤j→j<n+1 → ∀ i,zF j 29 0=some i → ¬ (257+i=c∧j-lAt.getD i 0=m)):=fun hcc=>Lib.hid (by
     intro j h1 h2 i' hj
     by_cases hjn:j<n
     · exact HN.out j h1 hjn i' hj
     · have:j=n:=by omega
       subst this
       rw [HI.out] at hj
       cases hj
       rw [← HMM.out]
       exact hcc)
    have NEXT:=Lib.hid next
    clear next
    by_cases hcc:257+i=c
    · have t1:((257:Int)+(i:Int)==(c:Int))=true:=by simp; omega
      by_cases hm2:mm=m
      · have t2:((mm:Int)==(m:Int))=true:=by simp; omega
        have t2':(mm==m)=true:=by simp [hm2]
        go_wp2
        go_returns
        refine ⟨?_,hU.then (hU2.alloc _)⟩
        rw [HR.out,← hcc,← hm2,HBH.out]
        rfl
      · have t2:((mm:Int)==(m:Int))=false:=by simp; omega
        have t2':(mm==m)=false:=by simp [hm2]
        go_wp2
        go_roundg (259-(n+1))
        · exact ⟨n+1,by omega,by omega,rfl,by first | rfl | go_num,NEXT.out (fun h=>hm2 h.2),hU.then (hU2.alloc _)⟩
        · omega
    · have t1:((257:Int)+(i:Int)==(c:Int))=false:=by simp; omega
      go_wp2
      go_roundg (259-(n+1))
      · exact ⟨n+1,by omega,by omega,rfl,by first | rfl | go_num,NEXT.out (fun h=>hcc h.1),hU.then (hU2.alloc _)⟩
      · omega
  · have hnz : ¬ (n:Int)≤258:=by omega
    go_wp2
    go_returns
    refine ⟨?_,hU⟩
    rw [HR.out]
    rcases HM.out with h | ⟨v,hv,h1,h2,h3',h4,h5⟩
    · rw [h]; rfl
    · exact absurd ⟨by omega,h5⟩ (HN.out _ h2 (by omega) _ h4)
end Go.Proofs.YtfkcdnaghndgfaaGreatDoor
namespace Go.Proofs.YtfkcdnaghndgfaaGreatDoor
open Go.RowKit
def bAt:List Nat:=[1,2,3,4,5,7,9,13,17,25,33,49,65,97,129,193,257,385,513,769,1025,1537,2049,3073,4097,6145,8193,12289,16385,24577,32769]
theorem ze9 : ∀ c:Fin 30,xA (c.val:Nat)=max 0 (((c.val/2:Nat):Int)-1):=by decide +kernel
theorem zaO (c:Nat) (h:30≤c):xA (c:Nat) = -1:=by unfold xA zE; rw [if_pos (.inr (by omega))]
theorem zer : ∀ c:Fin 30,zE 2 4 30 (c.val:Nat) ≠ -1∧(2:Int)^(zE 2 4 30 (c.val:Nat)).toNat=((bAt.getD (c.val+1) 0-bAt.getD c.val 0:Nat):Int)∧ji 1 2 4 30 c.val=bAt.getD c.val 0∧bAt.getD c.val 0≤bAt.getD (c.val+1) 0∧bAt.getD (c.val+1) 0≤32769:=by decide +kernel
set_option maxRecDepth 100000 in
set_option maxHeartbeats 1600000 in
theorem YD (c:Nat) (w:World) (hc:c<300):Calls Tryz.prog 111 #[.int .i64 (c:Nat)] w fun e w'=>e = .returned (.int .i64 (xA (c:Nat)))∧Upd [] w w':=by
 by_cases h:c≤29
 · have hf:=ze9 ⟨c,by omega⟩
   have HF:=Lib.hid hf
   clear hf
   have t1:decide ((29:Int)<(c:Int))=false:=decide_eq_false (by omega)
   have t2:decide (29<c)=false:=decide_eq_false (by omega)
   have q1:(c:Int).tdiv 2=((c/2:Nat):Int):=by rw [Int.tdiv_eq_ediv_of_nonneg (by omega)]; omega
   have q1':(c:Int)/2=((c/2:Nat):Int):=by omega
   obtain ⟨d,hd⟩ : ∃ d,d=c/2:=⟨_,rfl⟩
   rw [← hd] at q1 q1'
   have HD:=Lib.hid hd
   have hd2:d≤14:=by omega
   clear hd
   have q2:IntKind.i64.wrap ((d:Int)-1)=(d:Int)-1:=IntWalk.i64_in _ (by omega)
   go_enter Tryz.func111,Tryz.ntmps111
   go_wp2
   go_returns
   refine ⟨?_,.refl _ _⟩
   rw [HF.out,← HD.out]
   rfl
 · have hf:=Lib.hid (zaO c (by omega))
   have t1:decide ((29:Int)<(c:Int))=true:=decide_eq_true (by omega)
   have t2:decide (29<c)=true:=decide_eq_true (by omega)
   go_enter Tryz.func111,Tryz.ntmps111
   go_wp2
   go_returns
   exact ⟨by rw [hf.out]; rfl,.refl _ _⟩
set_option maxRecDepth 100000 in
set_option maxHeartbeats 1600000 in
theorem Ws (c m:Nat) (w:World) (hc:c<300) (hm:m<1000000):Calls Tryz.prog 112 #[.int .i64 (c:Nat),.int .i64 (m:Nat)] w fun e w'=>e = .returned (Yc (Qt 1 2 4 30 (c:Nat) (m:Nat)))∧Upd [] w w':=by
 by_cases h:c≤29
 · obtain ⟨f1,f2,f3,f4,f5⟩:=zer ⟨c,by omega⟩
   dsimp only at f1 f2 f3 f4 f5
   have hget : ∀ j,j<31→bAt[j]? =some (bAt.getD j 0):=fun j h=>by rw [List.getD,List.getElem?_eq_getElem (show j<bAt.length from h)]; rfl
   have g1:=hget c (by omega)
   have g2:=hget (c+1) (by omega)
   have hn:Qt 1 2 4 30 (c:Nat) (m:Nat)=if m<bAt.getD (c+1) 0-bAt.getD c 0 then some (bAt.getD c 0+m) else none:=by
    unfold Qt
    rw [f2,Int.toNat_natCast,Int.toNat_natCast,f3]
    by_cases hlt:m<bAt.getD (c+1) 0-bAt.getD c 0
    · rw [if_neg (by omega),if_pos hlt]
    · rw [if_pos (by omega),if_neg hlt]
   have HN:=Lib.hid hn
   have G1:=Lib.hid g1
   have G2:=Lib.hid g2
   clear f1 f2 f3 g1 g2 hn hget
   generalize bAt.getD (c+1) 0=q at *
   generalize bAt.getD c 0=p at *
   have t1:decide ((29:Int)<(c:Int))=false:=decide_eq_false (by omega)
   have t2:decide (29<c)=false:=decide_eq_false (by omega)
   have hc31:(c:Int)<31:=by omega
   have hc32:(c:Int)+1<31:=by omega
   have hc0:(0:Int)≤(c:Int)+1:=by omega
   have e1:IntKind.i64.wrap ((q:Int)-(p:Int))=(q:Int)-(p:Int):=IntWalk.i64_in _ (by omega)
   have e2:IntKind.i64.wrap ((c:Int)+1)=(c:Int)+1:=IntWalk.i64_in _ (by omega)
   have e3:((c:Int)+1).toNat=c+1:=by omega
   have t4:decide ((c:Int)<0)=false:=decide_eq_false (by omega)
   have t5:decide ((m:Int)<0)=false:=decide_eq_false (by omega)
   have t6:(0:Int)≤(c:Int):=by omega
   go_enter Tryz.func112,Tryz.ntmps112
   go_upto_region 2 with fail
   have hB:=Blk.new w (zg bAt) 3
   have hU:Upd [] w (w.alloc (.cells (zg bAt).toArray 3)):=(Upd.refl [] w).alloc _
   change Code.wp _ _ _ _ (w.alloc (.cells (zg bAt).toArray 3))
   generalize w.alloc (.cells (zg bAt).toArray 3)=w1 at *
   have d1:=hB.cell c (zC _ _ _ G1.out)
   have d2:=hB.cell (c+1) (zC _ _ _ G2.out)
   clear hB
   have HU:=Lib.hid hU
   clear hU
   generalize w.heap.size=wb at *
   by_cases hlt:m<q-p
   · have t3:decide ((q:Int)-(p:Int)≤(m:Int))=false:=decide_eq_false (by omega)
     go_wp2
     go_quiet (fail)
     go_wp2
     go_returns
     exact ⟨by rw [HN.out,if_pos hlt]; rfl,HU.out.drewN _⟩
   · have t3:decide ((q:Int)-(p:Int)≤(m:Int))=true:=decide_eq_true (by omega)
     go_wp2
     go_quiet (fail)
     go_wp2
     go_returns
     exact ⟨by rw [HN.out,if_neg hlt]; rfl,HU.out.drewN _⟩
 · have hn:Qt 1 2 4 30 (c:Nat) (m:Nat)=none:=by
    unfold Qt
    rw [if_pos (.inl (by have:=zaO c (by omega); unfold xA at this; exact this))]
   have HN:=Lib.hid hn
   clear hn
   have t1:decide ((29:Int)<(c:Int))=true:=decide_eq_true (by omega)
   have t2:decide (29<c)=true:=decide_eq_true (by omega)
   have t4:decide ((c:Int)<0)=false:=decide_eq_false (by omega)
   go_enter Tryz.func112,Tryz.ntmps112
   go_upto_region 2 with fail
   have hU:Upd [] w (w.alloc (.cells (zg bAt).toArray 3)):=(Upd.refl [] w).alloc _
   change Code.wp _ _ _ _ (w.alloc (.cells (zg bAt).toArray 3))
   generalize w.alloc (.cells (zg bAt).toArray 3)=w1 at *
   generalize w.heap.size=wb at *
   have HU:=Lib.hid hU
   clear hU
   go_wp2
   go_quiet (fail)
   go_wp2
   go_returns
   exact ⟨by rw [HN.out]; rfl,HU.out.drewN _⟩
end Go.Proofs.YtfkcdnaghndgfaaGreatDoor
namespace Go.Proofs.YtfkcdnaghndgfaaGreatDoor
open Go.RowKit
structure Agree (N:Nat) (s s':ByteArray):Prop where
 le:N≤s.size
 le':N≤s'.size
 eq:(za s).take N=(za s').take N
theorem ZH (a b:List Nat):zn (a++b)=zn a++zn b:=by simp [zn]
theorem vO (l:List Nat) (N:Nat) (h:N≤l.length):(zn l).take (8*N)=zn (l.take N):=by
 have e:zn l=zn (l.take N)++zn (l.drop N):=by rw [← ZH,List.take_append_drop]
 rw [e,List.take_left']
 rw [zK,List.length_take]; omega
theorem Agree.bits {N:Nat} {s s':ByteArray} (h:Agree N s s'):(kg s).take (8*N)=(kg s').take (8*N):=by
 unfold kg
 rw [vO _ _ (by rw [zc]; exact h.le),vO _ _ (by rw [zc]; exact h.le'),h.eq]
def Tr {α:Type} (N:Nat) (s':ByteArray) (r r':Except Nat (α×Nat)):Prop :=
 ∀ v a',r = .ok (v,a')→(a'≤8*N→r' = .ok (v,a'))∧(N=s'.size→8*N<a'→r' = .error 3)
theorem Tr.bind {α β:Type} {N:Nat} {s':ByteArray} {x x':Except Nat (α×Nat)} {f f':α×Nat→Except Nat (β×Nat)} (hx:Tr N s' x x')
 (hf : ∀ v a1,x = .ok (v,a1)→a1≤8*N→Tr N s' (f (v,a1)) (f' (v,a1))) (hm : ∀ v a1 u a2,x = .ok (v,a1)→f (v,a1) = .ok (u,a2)→a1≤a2):Tr N s' (x >>= f) (x' >>= f'):=by
 intro u a2 h
 obtain ⟨⟨v,a1⟩,h1,h2⟩:=yF h
 have hle:=hm v a1 u a2 h1 h2
 obtain ⟨e1,e2⟩:=hx v a1 h1
 by_cases hc:a1≤8*N
 · rw [e1 hc]
   exact hf v a1 h1 hc u a2 h2
 · refine ⟨fun h=>by omega,fun hN _=>?_⟩
   rw [e2 hN (by omega)]; rfl
theorem Tr.map {α β:Type} {N:Nat} {s':ByteArray} {x x':Except Nat (α×Nat)} {f:α×Nat→β×Nat} (hx:Tr N s' x x') (hf : ∀ r,(f r).2=r.2):Tr N s' (x.map f) (x'.map f):=by
 intro u a2 h
 obtain ⟨⟨v,a1⟩,h1,h2⟩:=KW h
 obtain ⟨e1,e2⟩:=hx v a1 h1
 have:=hf (v,a1)
 rw [h2] at this
 simp only at this
 subst this
 refine ⟨fun h=>?_,fun hN hlt=>?_⟩
 · rw [e1 h]; show Except.ok (f (v,a2))=_; rw [h2]
 · rw [e2 hN hlt]; rfl
section
variable {N:Nat} {s s':ByteArray} (hA:Agree N s s')
include hA
end
end Go.Proofs.YtfkcdnaghndgfaaGreatDoor
namespace Go.Proofs.YtfkcdnaghndgfaaGreatDoor
open Go.RowKit
theorem Tr.pure {α:Type} {N:Nat} {s':ByteArray} {v:α} {a:Nat} (ha:a≤8*N):Tr N s' (.ok (v,a)) (.ok (v,a)):=by
 intro u a2 h
 cases h
 exact ⟨fun _=>rfl,fun _ h=>by omega⟩
section
variable {N:Nat} {s s':ByteArray} (hA:Agree N s s')
include hA
omit hA in
theorem VF (l:List Int) (t:ByteArray) (many f:Nat) (L:List Nat) (a:Nat) (h:L.length<many):jd l t many (f+1) L a=yR l t a >>= fun r=>qS t r.1 L r.2 >>= fun q=>if q.1.1≤many-L.length then jd l t many f (L++List.replicate q.1.1 q.1.2) q.2 else .error 2:=by
 simp only [jd]
 rw [if_pos h]
 cases yR l t a with
 | error c=>rfl
 | ok r =>
   show (match qS t r.1 L r.2 with | .error c=>_ | .ok q=>_)=(qS t r.1 L r.2 >>= _)
   cases qS t r.1 L r.2 with
   | error c=>rfl
   | ok q=>rfl
omit hA in
theorem zbc (t:ByteArray) (m i:Nat) (L:List Nat) (a:Nat):xy t (m+1) i L a=zy t a 3 >>= fun r=>xy t m (i+1) (L.set (xd.getD i 0) r.1) r.2:=by
 simp only [xy]
 cases zy t a 3<;>rfl
end
end Go.Proofs.YtfkcdnaghndgfaaGreatDoor
namespace Go.Proofs.YtfkcdnaghndgfaaGreatDoor
open Go.RowKit
def Rm {α:Type} (len:α→Nat) (m:Nat) (r r':Except Nat α):Prop := ∀ v,r = .ok v→(len v≤m→r' = .ok v)∧(m<len v→r' = .error 4)
theorem Rm.pure {α:Type} {len:α→Nat} {m:Nat} {v:α} (h:len v≤m):Rm len m (.ok v) (.ok v):=fun u e=>by cases e; exact ⟨fun _=>rfl,fun h=>by omega⟩
theorem Rm.same {α β:Type} {len:β→Nat} {m:Nat} {x:Except Nat α} {f f':α→Except Nat β} (h : ∀ v,x = .ok v→Rm len m (f v) (f' v)):Rm len m (x >>= f) (x >>= f'):=by
 intro u e
 obtain ⟨v,h1,h2⟩:=yF e
 rw [h1]
 exact h v h1 u h2
theorem Rm.bind {α β:Type} {len:α→Nat} {len':β→Nat} {m:Nat} {x x':Except Nat α} {f f':α→Except Nat β} (hx:Rm len m x x') (hf : ∀ v,x = .ok v→len v≤m→Rm len' m (f v) (f' v))
 (hm : ∀ v u,x = .ok v→f v = .ok u→len v≤len' u):Rm len' m (x >>= f) (x' >>= f'):=by
 intro u e
 obtain ⟨v,h1,h2⟩:=yF e
 have hle:=hm v u h1 h2
 obtain ⟨e1,e2⟩:=hx v h1
 by_cases hc:len v≤m
 · rw [e1 hc]; exact hf v h1 hc u h2
 · refine ⟨fun h=>by omega,fun _=>?_⟩
   rw [e2 (by omega)]; rfl
end Go.Proofs.YtfkcdnaghndgfaaGreatDoor
namespace Go.Proofs.YtfkcdnaghndgfaaGreatDoor
open Go.RowKit
def Er {α:Type} (r:Except Nat α):Prop := ∀ c,r = .error c→2≤c∧c≤4
theorem Er.ok {α:Type} {v:α}:Er (.ok v:Except Nat α):=fun c h=>by cases h
theorem Er.error {α:Type} {k:Nat} (h:2≤k∧k≤4):Er (.error k:Except Nat α):=fun c e=>by cases e; exact h
theorem Er.bind {α β:Type} {x:Except Nat α} {f:α→Except Nat β} (hx:Er x) (hf : ∀ v,x = .ok v→Er (f v)):Er (x >>= f):=by
 intro c e
 cases hc:x with
 | error k=>rw [hc] at e; cases e; exact hx _ hc
 | ok v=>rw [hc] at e; exact hf v hc c e
theorem Er.map {α β:Type} {x:Except Nat α} {f:α→β} (hx:Er x):Er (x.map f):=by
 intro c e
 cases hc:x with
 | error k=>rw [hc] at e; cases e; exact hx _ hc
 | ok v=>rw [hc] at e; cases e
theorem jN {s:ByteArray} {a n:Nat}:Er (zy s a n):=by
 unfold zy; split
 · exact Er.ok
 · exact Er.error (by omega)
theorem zfJ {l:List Int} {s:ByteArray} {a:Nat}:Er (yR l s a):=by
 unfold yR; split
 · exact Er.error (by omega)
 · split
   · exact Er.ok
   · exact Er.error (by omega)
   · exact Er.error (by omega)
theorem zhD {s:ByteArray} {k:Nat} {L:List Nat} {a:Nat}:Er (qS s k L a):=by
 unfold qS; split
 · unfold kO; split
   · split
     · exact Er.error (by omega)
     · exact jN.map
   · split
     · exact jN.map
     · exact jN.map
 · exact Er.ok
theorem zhY {l:List Int} {s:ByteArray} {many:Nat} : ∀ (f:Nat) (L:List Nat) (a:Nat),Er (jd l s many f L a):=by
 intro f
 induction f with
 | zero=>intro L a; exact Er.ok
 | succ f ih =>
   intro L a
   by_cases hc:L.length<many
   · rw [VF _ _ _ _ _ _ hc]
     refine zfJ.bind fun r _=>zhD.bind fun q _=>?_
     split
     · exact ih _ _
     · exact Er.error (by omega)
   · rw [Xs hc]; exact Er.ok
theorem zd2 {s:ByteArray} : ∀ (m i:Nat) (L:List Nat) (a:Nat),Er (xy s m i L a):=by
 intro m
 induction m with
 | zero=>intro i L a; exact Er.ok
 | succ m ih=>intro i L a; rw [zbc]; exact jN.bind fun r _=>ih _ _ _
theorem zbs {s:ByteArray} {a:Nat}:Er (xV s a):=by
 unfold xV
 refine jN.bind fun r1 _=>jN.bind fun r2 _=>jN.bind fun r3 _=>?_
 unfold jz; split
 · refine (zd2 _ _ _ _).bind fun r4 _=>?_
   unfold qC; split
   · refine (zhY _ _ _).bind fun r5 _=>?_
     unfold ko; split
     · split
       · exact Er.ok
       · exact Er.error (by omega)
     · exact Er.error (by omega)
   · exact Er.error (by omega)
 · exact Er.error (by omega)
end Go.Proofs.YtfkcdnaghndgfaaGreatDoor
