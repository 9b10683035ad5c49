/- Package swingleref19: Read: its walk. -/
import Derived.Test.YtigjingielnaoaaGreatDoorQAZ
import Derived.Lib.MinMax
import Derived.Test.YtigjingielnaoaaGreatDoorQAO
import Derived.Test.YtigjingielnaoaaGreatDoorCopy
import Derived.Test.YtigjingielnaoaaGreatDoorQAY
set_option linter.unusedVariables false
set_option linter.unusedSimpArgs false
set_option linter.unusedSectionVars false
namespace Go.Proofs.YtigjingielnaoaaGreatDoor
open Go.RowKit
set_option maxRecDepth 100000 in
set_option maxHeartbeats 12800000 in
theorem XN (s:ByteArray) (a:Int) (w:World) (hs:s.size≤1000000):Calls Tryz.prog 126 #[.string s,.int .i64 a] w fun e w'=>e = .returned (XG (zj s a))∧Upd [] w w':=by
 by_cases ha:a<0∨(s.size:Int)<a∨(s.size:Int)-a<30
 · have HV:Hid (zj s a=(zT,0,false,3)):=Lib.hid (by
    unfold zj
    by_cases h:a<0∨(s.size:Int)<a
    · rw [if_pos h]
    · rw [if_neg h]
      exact if_pos (.inl (by rw [ByteArray.size_extract]; omega)))
   rcases (by omega:a<0∨(¬ a<0∧(s.size:Int)<a)∨(0≤a∧a≤(s.size:Int) ∧ ¬ a<0∧(s.size:Int)-a<30)) with h1 | ⟨h0,h1⟩ | ⟨h2,h3,h0,h1⟩
   all_goals
    clear ha
    go_enter Tryz.func126,Tryz.ntmps126
    go_wp2
    (try simp only [Exit.inBlock,Exit.then]); refine bodyPost_ret (zS rfl _ _ w.heap.size _ _ _ _ _ _ _ _ _ rfl ((Blk.new w [.string .empty,.int .i64 0,.int .u32 0,.int .i64 0,.int .i64 0,.int .i64 0,.int .i64 0,.int .u32 0,.int .i64 0] 52).alloc _)) rfl ⟨?_,((Upd.refl [] w).alloc _).alloc _⟩
    rw [HV.out]; rfl
 obtain ⟨i,rfl⟩ : ∃ i:Nat,a=i:=⟨a.toNat,by omega⟩
 have hi0:(0:Int)≤(i:Int):=by omega
 have hi1:(i:Int)≤(s.size:Int):=by omega
 have hz : ¬ (s.size:Int)-(i:Int)<30:=by omega
 obtain ⟨x,hx⟩ : ∃ x,s.extract i s.size=x:=⟨_,rfl⟩
 have hxs:x.size=s.size-i:=by rw [← hx,ByteArray.size_extract]; omega
 have hxm:x.size≤1000000:=by omega
 have h30:30≤x.size:=by omega
 have HV0:Hid (zj s i=QM x i):=Lib.hid (by unfold zj; rw [if_neg (by omega),← hx]; rfl)
 have HXD:=Lib.hid hx
 clear ha hx hxs
 obtain ⟨be,gbe⟩ : ∃ n,gN x 0 4=n:=⟨_,rfl⟩
 obtain ⟨lo,glo,blo,Alo⟩:=VL x 26 2 (by omega) hxm (by omega)
 obtain ⟨mo,gmo,bmo,Amo⟩:=VL x 28 2 (by omega) hxm (by omega)
 obtain ⟨fl,gfl,bfl,Afl⟩:=VL x 6 2 (by omega) hxm (by omega)
 obtain ⟨me,gme,bme,Ame⟩:=VL x 8 2 (by omega) hxm (by omega)
 obtain ⟨ti,gti,bti,Ati⟩:=VL x 10 4 (by omega) hxm (by omega)
 obtain ⟨su,gsu,bsu,Asu⟩:=VL x 14 4 (by omega) hxm (by omega)
 obtain ⟨la,gla,bla,Ala⟩:=VL x 18 4 (by omega) hxm (by omega)
 obtain ⟨wh,gwh,bwh,Awh⟩:=VL x 22 4 (by omega) hxm (by omega)
 have HVX:Hid (QM x i=if x.size<30+lo+mo then (zT,0,false,3)
  else if yn ⟨be,fl,me,ti,su,la,wh,((ze x).drop 30).take lo⟩=false then (zT,0,false,2)
  else if (zv (((ze x).drop 30).take lo)).2.2=false then (zT,0,false,5)
  else if xj ((zv (((ze x).drop 30).take lo)).2.1:Nat) ti=false then (zT,0,false,13)
  else (⟨zf (zv (((ze x).drop 30).take lo)).1,me,su,la,wh,((zv (((ze x).drop 30).take lo)).2.1:Nat),0,ti,i⟩,30+lo+mo,decide (fl=2056),0)):=Lib.hid (by
  have hl:qE x=30+lo+mo:=by unfold qE; rw [glo,gmo]
  unfold QM
  by_cases hh:x.size<30+lo+mo
  · rw [if_pos hh,if_pos (.inr (by rw [hl]; exact hh))]
  · rw [if_neg hh,if_neg (by rw [hl]; omega),Kb x h30 (by rw [hl]; omega),gbe,gfl,gme,gti,gsu,gla,gwh,glo,hl]
    rfl)
 have HM:=Lib.hid (vq x (by omega) [80,75,3,4] 67324752 rfl (by decide))
 rw [gbe] at HM
 have hnm:ze (x.extract 30 (30+lo))=((ze x).drop 30).take lo:=by rw [zr,Nat.add_sub_cancel_left]
 have HPT:=Lib.hid (fun w=>qm (x.extract 30 (30+lo)) w (by rw [ByteArray.size_extract]; omega))
 rw [hnm] at HPT
 have HPS:=Lib.hid (fun h=>xz (l:=((ze x).drop 30).take lo) h)
 generalize ((ze x).drop 30).take lo=nm at *
 generalize zv nm=PP at *
 obtain ⟨pa,kk,okb⟩:=PP
 unfold jq at HPT
 dsimp only at HPT HPS HVX
 simp only [Nat.reducePow] at blo bmo bfl bme bti bsu bla bwh
 have E1:Hid ((((fl:Int) != 2048)=decide (fl≠2048)∧((fl:Int) != 2056)=decide (fl≠2056))∧(((me:Int) != 0)=decide (me≠0)∧((me:Int) != 8)=decide (me≠8))∧((fl:Int)==2056)=decide (fl=2056)∧(((su:Int) != 0)=decide (su≠0)∧((la:Int) != 0)=decide (la≠0)∧((wh:Int) != 0)=decide (wh≠0))):=Lib.hid (by
  refine ⟨⟨?_,?_⟩,⟨?_,?_⟩,?_,?_,?_,?_⟩
  all_goals (rw [Bool.eq_iff_iff]; simp<;>omega))
 have HV:=Lib.hid (HV0.out.trans HVX.out)
 clear HV0 HVX hnm gbe glo gmo gfl gme gti gsu gla gwh
 go_enter Tryz.func126,Tryz.ntmps126
 go_wp2_with fail
 rw [HXD.out]
 have S:=Lib.hid (Rd3.new w)
 refine (Alo.out _).mono ?_
 rintro e w1 ⟨rfl,hu⟩
 have S:=Lib.hid (S.out.upd hu)
 clear hu HXD hi0 hi1 hz
 go_wp2_with fail
 refine (Amo.out _).mono ?_
 rintro e w1 ⟨rfl,hu⟩
 have S:=Lib.hid (S.out.upd hu)
 clear hu
 generalize w.heap.size=r0 at *
 by_cases hlen:x.size<30+lo+mo
 · have HV:=Lib.hid (HV.out.trans (if_pos hlen))
   have cA:=S.out.2.1.all
   have dA:=S.out.2.2.1.all
   have fA:=S.out.2.1.frz
   go_wp2_with fail
   (try simp only [Exit.inBlock,Exit.then]); refine bodyPost_ret (zS rfl _ _ r0 _ _ _ _ _ _ _ _ _ rfl (Blk.set9 S.out.2.1 _ _ _ _ _ _ _ _ _)) rfl ⟨?_,Upd.set9 S.out.2.2.2 (.inr S.out.1) _ _ _ _ _ _ _ _ _⟩
   rw [HV.out]; rfl
 have HV:=Lib.hid (HV.out.trans (if_neg hlen))
 have hl1:30+lo+mo≤x.size:=by omega
 clear hlen
 go_wp2_with fail
 refine (Afl.out _).mono ?_
 rintro e w1 ⟨rfl,hu⟩
 have S:=Lib.hid (S.out.upd hu)
 clear hu
 go_wp2_with fail
 refine (Ame.out _).mono ?_
 rintro e w1 ⟨rfl,hu⟩
 have S:=Lib.hid (S.out.upd hu)
 clear hu
 by_cases hg:be=67324752∧(fl=2048∨fl=2056)∧(me=0∨me=8)
 rotate_left
 · have HV:=Lib.hid (HV.out.trans (if_pos (by unfold yn; simp; omega)))
   obtain ⟨⟨t1,t2⟩,⟨t3,t4⟩,_⟩:=E1.out
   have tm:=HM.out
   clear E1 HM Ati Asu Ala Awh HPT HPS
   rcases (by omega:be≠67324752∨(be=67324752∧fl≠2048∧fl≠2056)∨(be=67324752∧fl=2048∧me≠0∧me≠8)∨(be=67324752∧fl=2056∧me≠0∧me≠8)) with h | ⟨h,h1,h2⟩ | ⟨h,h1,h2,h3⟩ | ⟨h,h1,h2,h3⟩
   all_goals
    simp only [h,decide_true,decide_false] at tm
    try simp only [h1,h2,decide_true,decide_false,ne_eq,not_true,not_false_eq_true,reduceCtorEq] at t1 t2
    try simp only [h2,h3,decide_true,decide_false,ne_eq,not_true,not_false_eq_true] at t3 t4
    clear hg
    have cA:=S.out.2.1.all
    have dA:=S.out.2.2.1.all
    have fA:=S.out.2.1.frz
    go_wp2_with fail
    (try simp only [Exit.inBlock,Exit.then]); refine bodyPost_ret (zS rfl _ _ r0 _ _ _ _ _ _ _ _ _ rfl (Blk.set9 S.out.2.1 _ _ _ _ _ _ _ _ _)) rfl ⟨?_,Upd.set9 S.out.2.2.2 (.inr S.out.1) _ _ _ _ _ _ _ _ _⟩
    rw [HV.out]; rfl
 obtain ⟨hg1,hg2,hg3⟩:=hg
 have hm2:(me=0∨me=8):=hg3
 have hf2:(fl=2048∨fl=2056):=hg2
 have HM2:=Lib.hid (And.intro hf2 hm2)
 clear hm2 hf2
 go_upto_region 9 with fail
 go_cut [71] (fun s71 wx=>s71 = .bool false∧Hid (Rd3 w r0 wx))
 case first =>
  obtain ⟨⟨t1,t2⟩,⟨t3,t4⟩,_⟩:=E1.out
  have tm:=HM.out
  simp only [hg1,decide_true] at tm
  rcases hg2 with h1 | h1<;>rcases hg3 with h2 | h2
  all_goals
   subst h1 h2
   go_wp2
   go_meet
   exact ⟨rfl,S⟩
 case rest =>
 obtain ⟨rfl,S⟩:=hcut
 clear hg2 hg3
 go_wp2_with fail
 refine (Ati.out _).mono ?_
 rintro e w1 ⟨rfl,hu⟩
 have S:=Lib.hid (S.out.upd hu)
 clear hu
 go_wp2_with fail
 refine (Asu.out _).mono ?_
 rintro e w1 ⟨rfl,hu⟩
 have S:=Lib.hid (S.out.upd hu)
 clear hu
 go_wp2_with fail
 refine (Ala.out _).mono ?_
 rintro e w1 ⟨rfl,hu⟩
 have S:=Lib.hid (S.out.upd hu)
 clear hu
 go_wp2_with fail
 refine (Awh.out _).mono ?_
 rintro e w1 ⟨rfl,hu⟩
 have S:=Lib.hid (S.out.upd hu)
 clear hu
 have hq0:=S.out.2.2.1.lt
 have HQ:=Lib.hid (Blk.new w1 [.string { data := #[] },.int .i64 (me:Nat),.int .u32 (su:Nat),.int .i64 (la:Nat),.int .i64 (wh:Nat),.int .i64 0,.int .i64 0,.int .u32 (ti:Nat),.int .i64 (i:Nat)] 52)
 have S:=Lib.hid (S.out.upd ((Upd.refl [] w1).alloc (.cells #[.string { data := #[] },.int .i64 (me:Nat),.int .u32 (su:Nat),.int .i64 (la:Nat),.int .i64 (wh:Nat),.int .i64 0,.int .i64 0,.int .u32 (ti:Nat),.int .i64 (i:Nat)] 52)))
 go_upto_region 12 with fail
 change Code.wp _ _ _ _ (w1.alloc (.cells #[.string { data := #[] },.int .i64 (me:Nat),.int .u32 (su:Nat),.int .i64 (la:Nat),.int .i64 (wh:Nat),.int .i64 0,.int .i64 0,.int .u32 (ti:Nat),.int .i64 (i:Nat)] 52))
 generalize w1.alloc (.cells #[.string { data := #[] },.int .i64 (me:Nat),.int .u32 (su:Nat),.int .i64 (la:Nat),.int .i64 (wh:Nat),.int .i64 0,.int .i64 0,.int .u32 (ti:Nat),.int .i64 (i:Nat)] 52)=w2 at *
 generalize w1.heap.size=q0 at *
 obtain ⟨B,hB⟩ : ∃ B,decide (fl=2056 ∧ ¬ (su=0∧la=0∧wh=0))=B:=⟨_,rfl⟩
 have HBB:=Lib.hid hB
 clear hB
 go_cut [102] (fun s102 wx=>s102 = .bool B∧Hid (Rd3 w r0 wx)∧Hid (Blk wx q0 [.string { data := #[] },.int .i64 (me:Nat),.int .u32 (su:Nat),.int .i64 (la:Nat),.int .i64 (wh:Nat),.int .i64 0,.int .i64 0,.int .u32 (ti:Nat),.int .i64 (i:Nat)] 52))
 case first =>
  obtain ⟨_,_,t5,t6,t7,t8⟩:=E1.out
  have gA:=HQ.out.all
  rcases (by omega:fl≠2056∨(fl=2056∧su≠0)∨(fl=2056∧su=0∧la≠0)∨(fl=2056∧su=0∧la=0∧wh≠0)∨(fl=2056∧su=0∧la=0∧wh=0)) with h | ⟨h,h1⟩ | ⟨h,h1,h2⟩ | ⟨h,h1,h2,h3⟩ | ⟨h,h1,h2,h3⟩
  all_goals
   simp only [h,decide_true,decide_false] at t5
   try simp only [h1,ne_eq,not_true,not_false_eq_true,decide_true,decide_false] at t6
   try simp only [h2,ne_eq,not_true,not_false_eq_true,decide_true,decide_false] at t7
   try simp only [h3,ne_eq,not_true,not_false_eq_true,decide_true,decide_false] at t8
   have HB2:=HBB.out
   simp [*] at HB2
   subst HB2
   go_wp2
   go_meet
   exact ⟨rfl,S,HQ⟩
 case rest =>
 obtain ⟨rfl,S,HQ⟩:=hcut
 cases B with
 | true =>
   have HV:=Lib.hid (HV.out.trans (if_pos (by have:=of_decide_eq_true HBB.out; unfold yn; simp; omega)))
   have cA:=S.out.2.1.all
   have dA:=S.out.2.2.1.all
   have fA:=S.out.2.1.frz
   go_wp2_with fail
   (try simp only [Exit.inBlock,Exit.then]); refine bodyPost_ret (zS rfl _ _ r0 _ _ _ _ _ _ _ _ _ rfl (Blk.set9 S.out.2.1 _ _ _ _ _ _ _ _ _)) rfl ⟨?_,Upd.set9 S.out.2.2.2 (.inr S.out.1) _ _ _ _ _ _ _ _ _⟩
   rw [HV.out]; rfl
 | false =>
 have HV:=Lib.hid (HV.out.trans (if_neg (by have:=of_decide_eq_false HBB.out; have:=HM2.out; unfold yn; simp; omega)))
 go_wp2_with fail
 refine (HPT.out _).mono ?_
 rintro e w3 ⟨rfl,hu⟩
 have S:=Lib.hid (S.out.upd hu)
 have HQ:=Lib.hid (HQ.out.upd hu (by simp))
 clear hu HBB HPT
 cases okb with
 | false =>
   have HV:=Lib.hid (HV.out.trans (if_pos rfl))
   have cA:=S.out.2.1.all
   have dA:=S.out.2.2.1.all
   have fA:=S.out.2.1.frz
   go_wp2_with fail
   (try simp only [Exit.inBlock,Exit.then]); refine bodyPost_ret (zS rfl _ _ r0 _ _ _ _ _ _ _ _ _ rfl (Blk.set9 S.out.2.1 _ _ _ _ _ _ _ _ _)) rfl ⟨?_,Upd.set9 S.out.2.2.2 (.inr S.out.1) _ _ _ _ _ _ _ _ _⟩
   rw [HV.out]; rfl
 | true =>
 have HV:=Lib.hid (HV.out.trans (if_neg (by simp)))
 have hps:=HPS.out rfl
 have HTM:=Lib.hid (fun w=>Xu (⟨zf pa,me,su,la,wh,(kk:Nat),0,ti,(i:Nat)⟩:RecD) w ⟨by dsimp only; rw [zh]; omega,by dsimp only; omega,by dsimp only; omega⟩)
 unfold RecD.v at HTM
 dsimp only at HTM
 generalize xj (kk:Int) ti=tb at *
 have gA:=HQ.out.all
 have kA:=HQ.out.frz
 go_wp2_with fail
 refine (HTM.out _).mono ?_
 rintro e w4 ⟨rfl,hu⟩
 have S:=Lib.hid (((S.out.far (o:=0) hq0 (.string (zf pa))).far (o:=5) hq0 (.int .i64 (kk:Nat))).upd hu)
 have HQ:=Lib.hid (((HQ.out.set 0 (.string (zf pa))).set 5 (.int .i64 (kk:Nat))).upd hu (by simp))
 clear gA kA hu HTM HPS
 cases tb with
 | false =>
   have HV:=Lib.hid (HV.out.trans (if_pos rfl))
   have cA:=S.out.2.1.all
   have dA:=S.out.2.2.1.all
   have fA:=S.out.2.1.frz
   go_wp2_with fail
   (try simp only [Exit.inBlock,Exit.then]); refine bodyPost_ret (zS rfl _ _ r0 _ _ _ _ _ _ _ _ _ rfl (Blk.set9 S.out.2.1 _ _ _ _ _ _ _ _ _)) rfl ⟨?_,Upd.set9 S.out.2.2.2 (.inr S.out.1) _ _ _ _ _ _ _ _ _⟩
   rw [HV.out]; rfl
 | true =>
 have HV:=Lib.hid (HV.out.trans (if_neg (by simp)))
 have t5:=E1.out.2.2.1
 have gA:=HQ.out.all
 have cA:=S.out.2.1.all
 have dA:=S.out.2.2.1.all
 have fA:=S.out.2.1.frz
 go_wp2_with fail
 (try simp only [Exit.inBlock,Exit.then]); refine bodyPost_ret (zS rfl _ _ r0 _ _ _ _ _ _ _ _ _ rfl (Blk.set9 S.out.2.1 _ _ _ _ _ _ _ _ _)) rfl ⟨?_,Upd.set9 S.out.2.2.2 (.inr S.out.1) _ _ _ _ _ _ _ _ _⟩
 rw [HV.out]; simp [XG,RecD.v]
end Go.Proofs.YtigjingielnaoaaGreatDoor
namespace Go.Proofs.YtigjingielnaoaaGreatDoor
open Go.RowKit
theorem JL {P:Program} {fn:Func} {p u:Tmp} {ty:TypeId} (h:fn.results = #[.cell p ty,.tmp u]) (tmps:Array Value) (w:World) (g:Nat) (t:TypeId) (cs:Array Value) (fr:Nat×Nat) (d:TypeDesc) (v:Value)
 (hp:tmps.getD p undef = .pointer (some ⟨g,0,none⟩)) (hv:tmps.getD u undef=v) (hg:w.heap[g]? =some (.cells cs t fr))
 (hu:P.underlying ty=some d) (hd:(match d with | .struct _ | .array _ _=>true | _=>false)=true) (hi:(P.info? ty).map (·.size)=some cs.size) :
 (results fn tmps).run P w = .ok (.tuple #[.agg cs,v]) w:=by
 rw [results_cell_tmp h,hp,hv]
 simp [asAddr,run_loadVar_row w g t ty cs fr d hg hu hd hi,Result.andThen]
theorem zeC:(Tryz.prog.info? 261).map (·.size)=some 3:=by kernel_rfl
def lAt:List Nat:=[3,4,5,6,7,8,9,10,11,13,15,17,19,23,27,31,35,43,51,59,67,83,99,115,131,163,195,227,258,259]
def kj:List Nat:=[0,0,0,0,0,0,0,0,1,1,1,1,2,2,2,2,3,3,3,3,4,4,4,4,5,5,5,5,0]
def isL (n i:Nat):Prop:=lAt.getD i 0≤n∧n<lAt.getD (i+1) 0
instance (n i:Nat):Decidable (isL n i):=by unfold isL; infer_instance
def qD (n:Nat):Nat→Nat→Option Nat
 | 0,_=>none
 | m+1,i=>if isL n i then some i else qD n m (i+1)
theorem zbC : ∀ n:Fin 259,3≤n.val→(qD n.val 29 0).isSome=true:=by decide +kernel
def zas (i n:Nat):Value := .agg #[.int .i64 ((257+i:Nat):Int),.int .i64 (kj.getD i 0:Nat),.int .i64 ((n-lAt.getD i 0:Nat):Int)]
set_option maxRecDepth 100000 in
set_option maxHeartbeats 3200000 in
theorem Xw (n:Nat) (w:World) (h3:3≤n) (h258:n≤258) :
 Calls Tryz.prog 230 #[.int .i64 (n:Nat)] w fun e w' => ∃ i,qD n 29 0=some i∧e = .returned (.tuple #[zas i n,.bool true])∧Upd [] w w':=by
 have hall:=zbC ⟨n,by omega⟩ h3
 have HF:=Lib.hid hall
 clear hall
 go_enter Tryz.func230,Tryz.ntmps230
 go_wp2
 obtain ⟨w2,hw2⟩ : ∃ w2,w2=((w.alloc (Obj.cells #[.int .i64 0,.int .i64 0,.int .i64 0] 261)).alloc (Obj.cells (zy lAt).toArray 3)).alloc (Obj.cells (zy kj).toArray 3):=⟨_,rfl⟩
 change Code.wp _ _ _ _ (((w.alloc (Obj.cells #[.int .i64 0,.int .i64 0,.int .i64 0] 261)).alloc (Obj.cells (zy lAt).toArray 3)).alloc (Obj.cells (zy kj).toArray 3))
 have hU2:Upd [] w w2:=by rw [hw2]; exact (((Upd.refl [] w).alloc _).alloc _).alloc _
 have hS:Blk w2 w.heap.size [.int .i64 0,.int .i64 0,.int .i64 0] 261:=by rw [hw2]; exact ((Blk.new w [.int .i64 0,.int .i64 0,.int .i64 0] 261).alloc _).alloc _
 have hA:Blk w2 (w.heap.size+1) (zy lAt) 3:=by
  have h:=(Blk.new (w.alloc (Obj.cells #[.int .i64 0,.int .i64 0,.int .i64 0] 261)) (zy lAt) 3).alloc (Obj.cells (zy kj).toArray 3)
  rw [World.size_alloc] at h
  rw [hw2]; exact h
 have hB:Blk w2 (w.heap.size+1+1) (zy kj) 3:=by
  have h:=Blk.new ((w.alloc (Obj.cells #[.int .i64 0,.int .i64 0,.int .i64 0] 261)).alloc (Obj.cells (zy lAt).toArray 3)) (zy kj) 3
  rw [World.size_alloc,World.size_alloc] at h
  rw [hw2]; exact h
 rw [← hw2]
 clear hw2
 go_loopg [6,11] 29 (fun g s6 s11 wr => ∃ i,i≤29∧g=29-i∧s11 = .int .i64 (i:Nat)∧Hid (qD n 29 0=qD n (29-i) i)∧w2=wr)
 case atStart=>exact ⟨0,by omega,rfl,rfl,Lib.hid rfl,rfl⟩
 case round =>
  obtain ⟨i,hi,rfl,rfl,HL,rfl⟩:=hrel
  by_cases hc:i<29
  · have hcz:(i:Int)<29:=by omega
    have hst:qD n (29-i) i=if isL n i then some i else qD n (29-(i+1)) (i+1):=by
     rw [show 29-i=(29-(i+1))+1 by omega]; rfl
    have HST:=Lib.hid hst
    clear hst
    have hget : ∀ (l:List Nat) (j:Nat),j<l.length→l[j]? =some (l.getD j 0):=fun l j h=>by rw [List.getD,List.getElem?_eq_getElem h]; rfl
    have d1:=hA.cell i (zZ _ _ _ (hget lAt i (by show i<30; omega)))
    have d2:=hA.cell (i+1) (zZ _ _ _ (hget lAt (i+1) (by show i+1<30; omega)))
    have d3:=hB.cell i (zZ _ _ _ (hget kj i (by show i<29; omega)))
    have s0:=hS.cell 0 rfl
    have fA:=hS.frz
    have sA:=hS.all
    clear hget
    have HIL:=Lib.hid (show isL n i↔lAt.getD i 0≤n∧n<lAt.getD (i+1) 0 from Iff.rfl)
    have HLV:=Lib.hid (show zas i n = .agg #[.int .i64 ((257+i:Nat):Int),.int .i64 (kj.getD i 0:Nat),.int .i64 ((n-lAt.getD i 0:Nat):Int)] from rfl)
    generalize lAt.getD i 0=p at *
    generalize lAt.getD (i+1) 0=q at *
    generalize kj.getD i 0=bb at *
    have hi30:(i:Int)<30:=by omega
    have hi31:(i:Int)+1<30:=by omega
    have hi01:(0:Int)≤(i:Int)+1:=by omega
    by_cases hp:p≤n
    · have t1:decide ((p:Int)≤(n:Int))=true:=decide_eq_true (by omega)
      have t1':decide (p≤n)=true:=decide_eq_true hp
      have hpz:(p:Int)≤(n:Int):=by omega
      by_cases hq:n<q
      · have t2:decide ((n:Int)<(q:Int))=true:=decide_eq_true (by omega)
        have t2':decide (n<q)=true:=decide_eq_true hq
        have hqz:(n:Int)<(q:Int):=by omega
        have e1:IntKind.i64.wrap ((n:Int)-(p:Int))=((n-p:Nat):Int):=by rw [IntWalk.i64_in _ (by omega)]; omega
        have e2:IntKind.i64.wrap (257+(i:Int))=((257+i:Nat):Int):=by rw [IntWalk.i64_in _ (by omega)]; omega
        go_wp2
        go_region_law (fail)
        all_goals go_wp2
        all_goals (
         have hB9:=((hS.set 0 (.int .i64 (257+(i:Int)))).set 1 (.int .i64 (bb:Nat))).set 2 (.int .i64 ((n-p:Nat):Int))
         refine bodyPost_ret (JL rfl _ _ w.heap.size _ _ _ _ (.bool true) (by simp [Act.put]) (by simp [Act.put]) hB9 Tryz.underlying261 rfl (by rw [zeC]; rfl)) (by simp [Act.put]) ⟨i,?_,?_,?_⟩
         · rw [HL.out,HST.out,if_pos (HIL.out.2 ⟨hp,hq⟩)]
         · rw [HLV.out]; rfl
         · exact (((hU2.setCell (.inr (Nat.le_refl _)) _).setCell (.inr (Nat.le_refl _)) _).setCell (.inr (Nat.le_refl _)) _).drew)
      · have t2:decide ((n:Int)<(q:Int))=false:=decide_eq_false (by omega)
        have t2':decide (n<q)=false:=decide_eq_false hq
        go_wp2
        go_roundg (29-(i+1))
        · exact ⟨i+1,by omega,rfl,by first | rfl | go_num,Lib.hid (by rw [HL.out,HST.out,if_neg (fun h=>hq (HIL.out.1 h).2)]),rfl⟩
        · omega
    · have t1:decide ((p:Int)≤(n:Int))=false:=decide_eq_false (by omega)
      have t1':decide (p≤n)=false:=decide_eq_false hp
      go_wp2
      go_roundg (29-(i+1))
      · exact ⟨i+1,by omega,rfl,by first | rfl | go_num,Lib.hid (by rw [HL.out,HST.out,if_neg (fun h=>hp (HIL.out.1 h).1)]),rfl⟩
      · omega
  · exfalso
    have h1:=HL.out
    rw [show 29-i=0 by omega] at h1
    have h2:=HF.out
    rw [h1] at h2
    cases h2
def dAt:List Nat:=[1,2,3,4,5,7,9,13,17,25,33,49,65,97,129,193,257,385,513,769,1025,1537,2049,3073,4097,6145,8193,12289,16385,24577,32769]
def isD (n i:Nat):Prop:=dAt.getD i 0≤n∧n<dAt.getD (i+1) 0
instance (n i:Nat):Decidable (isD n i):=by unfold isD; infer_instance
end Go.Proofs.YtigjingielnaoaaGreatDoor
namespace Go.Proofs.YtigjingielnaoaaGreatDoor
open Go.RowKit
instance (n i:Nat):Decidable (isL n i):=by unfold isL; infer_instance
theorem zdn : ∀ n:Fin 259,3≤n.val→yQ ((257+(qD n.val 29 0).getD 0:Nat):Int)=((kj.getD ((qD n.val 29 0).getD 0) 0:Nat):Int):=by decide +kernel
theorem zbE : ∀ c:Fin 300,yQ (c.val:Nat) = -1∨(257≤c.val∧3≤lAt.getD (c.val-257) 0∧lAt.getD (c.val-257) 0≤258∧qD (lAt.getD (c.val-257) 0) 29 0=some (c.val-257)):=by decide +kernel
theorem zeu : ∀ n:Fin 259,3≤n.val→xm ((257+(qD n.val 29 0).getD 0:Nat):Int) ((n.val-lAt.getD ((qD n.val 29 0).getD 0) 0:Nat):Int)=some n.val:=by decide +kernel
theorem zc8 : ∀ c:Fin 300,∀ m:Fin 32,xm (c.val:Nat) (m.val:Nat)=none∨((xm (c.val:Nat) (m.val:Nat)).isSome=true∧(xm (c.val:Nat) (m.val:Nat)).getD 0<259∧3≤(xm (c.val:Nat) (m.val:Nat)).getD 0∧257≤c.val ∧
 qD ((xm (c.val:Nat) (m.val:Nat)).getD 0) 29 0=some (c.val-257)∧(xm (c.val:Nat) (m.val:Nat)).getD 0-lAt.getD (c.val-257) 0=m.val):=by decide +kernel
theorem zed (c:Fin 300) (m:Fin 32):xm (c.val:Nat) (m.val:Nat)=none ∨ ∃ v:Nat,v<259∧xm (c.val:Nat) (m.val:Nat)=some v∧3≤v∧257≤c.val∧qD v 29 0=some (c.val-257)∧v-lAt.getD (c.val-257) 0=m.val:=by
 rcases zc8 c m with h | ⟨h0,h1,h2,h3,h4,h5⟩
 · exact .inl h
 · obtain ⟨v,hv⟩:=Option.isSome_iff_exists.1 h0
   rw [hv] at h1 h2 h4 h5
   exact .inr ⟨v,h1,hv,h2,h3,h4,h5⟩
set_option maxRecDepth 100000 in
set_option maxHeartbeats 3200000 in
theorem ZV (c:Nat) (w:World) (hc:c<300):Calls Tryz.prog 210 #[.int .i64 (c:Nat)] w fun e w'=>e = .returned (.int .i64 (yQ (c:Nat)))∧Upd [] w w':=by
 have HM:=Lib.hid (zbE ⟨c,hc⟩)
 have HB:=Lib.hid (show yQ (c:Nat)=yQ (c:Nat) from rfl)
 obtain ⟨r,hr⟩ : ∃ r,r=yQ (c:Nat):=⟨_,rfl⟩
 have HR:=Lib.hid hr
 rw [← hr]
 clear hr HB
 go_enter Tryz.func210,Tryz.ntmps210
 go_wp2
 go_loopg [3] 256 (fun g s3 wr => ∃ n,3≤n∧n≤259∧g=259-n∧s3 = .int .i64 (n:Nat)∧Hid (∀ j,3≤j→j<n → ∀ i,qD j 29 0=some i→257+i≠c)∧Upd [] w wr)
 case atStart=>exact ⟨3,by omega,by omega,rfl,rfl,Lib.hid (fun j h1 h2=>by omega),.refl _ _⟩
 case round =>
  obtain ⟨n,h3,h259,rfl,rfl,HN,hU⟩:=hrel
  by_cases hn:n≤258
  · have hnz:(n:Int)≤258:=by omega
    have HL:=Lib.hid (Xw n wr h3 hn)
    go_wp2_with fail
    refine HL.out.mono ?_
    rintro e w2 ⟨i,hi,rfl,hU2⟩
    have hbh:=zdn ⟨n,by omega⟩ h3
    dsimp only at hbh
    rw [hi] at hbh
    simp only [Option.getD_some] at hbh
    have HBH:=Lib.hid hbh
    have HI:=Lib.hid hi
    clear hbh hi
    unfold zas
    generalize kj.getD i 0=bb at *
    generalize n-lAt.getD i 0=mm at *
    by_cases hcc:257+i=c
    · have t1:((257:Int)+(i:Int)==(c:Int))=true:=by simp; omega
      go_wp2
      go_returns
      refine ⟨?_,hU.then (hU2.alloc _)⟩
      rw [HR.out,← hcc,HBH.out]; rfl
    · have t1:((257:Int)+(i:Int)==(c:Int))=false:=by simp; omega
      go_wp2
      go_roundg (259-(n+1))
      · refine ⟨n+1,by omega,by omega,rfl,by first | rfl | go_num,Lib.hid ?_,hU.then (hU2.alloc _)⟩
        intro j h1 h2 i' hj
        by_cases hjn:j<n
        · exact HN.out j h1 hjn i' hj
        · have:j=n:=by omega
          subst this
          rw [HI.out] at hj
          cases hj
          exact hcc
      · omega
  · have hnz : ¬ (n:Int)≤258:=by omega
    go_wp2
    go_returns
    refine ⟨?_,hU⟩
    rw [HR.out]
    rcases HM.out with h | ⟨h1,h2,h3',h4⟩
    · rw [h]; rfl
    · exact absurd (by omega) (HN.out _ h2 (by omega) _ h4)
set_option maxRecDepth 100000 in
set_option maxHeartbeats 3200000 in
theorem Vm (c m:Nat) (w:World) (hc:c<300) (hm:m<32):Calls Tryz.prog 211 #[.int .i64 (c:Nat),.int .i64 (m:Nat)] w fun e w'=>e = .returned (qJ (xm (c:Nat) (m:Nat)))∧Upd [] w w':=by
 have HM:=Lib.hid (zed ⟨c,hc⟩ ⟨m,hm⟩)
 obtain ⟨r,hr⟩ : ∃ r,r=xm (c:Nat) (m:Nat):=⟨_,rfl⟩
 have HR:=Lib.hid hr
 rw [← hr]
 clear hr
 go_enter Tryz.func211,Tryz.ntmps211
 go_wp2
 go_loopg [6] 256 (fun g s6 wr => ∃ n,3≤n∧n≤259∧g=259-n∧s6 = .int .i64 (n:Nat)∧Hid (∀ j,3≤j→j<n → ∀ i,qD j 29 0=some i → ¬ (257+i=c∧j-lAt.getD i 0=m))∧Upd [] w wr)
 case atStart=>exact ⟨3,by omega,by omega,rfl,rfl,Lib.hid (fun j h1 h2=>by omega),.refl _ _⟩
 case round =>
  obtain ⟨n,h3,h259,rfl,rfl,HN,hU⟩:=hrel
  by_cases hn:n≤258
  · have hnz:(n:Int)≤258:=by omega
    have HL:=Lib.hid (Xw n wr h3 hn)
    go_wp2_with fail
    refine HL.out.mono ?_
    rintro e w2 ⟨i,hi,rfl,hU2⟩
    have hbh:=zeu ⟨n,by omega⟩ h3
    dsimp only at hbh
    rw [hi] at hbh
    simp only [Option.getD_some] at hbh
    have HBH:=Lib.hid hbh
    have HI:=Lib.hid hi
    clear hbh hi
    unfold zas
    generalize kj.getD i 0=bb at *
    obtain ⟨mm,hmm⟩ : ∃ mm,mm=n-lAt.getD i 0:=⟨_,rfl⟩
    rw [← hmm] at HBH ⊢
    have HMM:=Lib.hid hmm
    clear hmm
    have next : ¬ (257+i=c∧mm=m)→Hid (∀ j,3≤j→j<n+1 → ∀ i,qD j 29 0=some i → ¬ (257+i=c∧j-lAt.getD i 0=m)):=fun hcc=>Lib.hid (by
     intro j h1 h2 i' hj
     by_cases hjn:j<n
     · exact HN.out j h1 hjn i' hj
     · have:j=n:=by omega
       subst this
       rw [HI.out] at hj
       cases hj
       rw [← HMM.out]
       exact hcc)
    have NEXT:=Lib.hid next
    clear next
    by_cases hcc:257+i=c
    · have t1:((257:Int)+(i:Int)==(c:Int))=true:=by simp; omega
      by_cases hm2:mm=m
      · have t2:((mm:Int)==(m:Int))=true:=by simp; omega
        have t2':(mm==m)=true:=by simp [hm2]
        go_wp2
        go_returns
        refine ⟨?_,hU.then (hU2.alloc _)⟩
        rw [HR.out,← hcc,← hm2,HBH.out]
        rfl
      · have t2:((mm:Int)==(m:Int))=false:=by simp; omega
        have t2':(mm==m)=false:=by simp [hm2]
        go_wp2
        go_roundg (259-(n+1))
        · exact ⟨n+1,by omega,by omega,rfl,by first | rfl | go_num,NEXT.out (fun h=>hm2 h.2),hU.then (hU2.alloc _)⟩
        · omega
    · have t1:((257:Int)+(i:Int)==(c:Int))=false:=by simp; omega
      go_wp2
      go_roundg (259-(n+1))
      · exact ⟨n+1,by omega,by omega,rfl,by first | rfl | go_num,NEXT.out (fun h=>hcc h.1),hU.then (hU2.alloc _)⟩
      · omega
  · have hnz : ¬ (n:Int)≤258:=by omega
    go_wp2
    go_returns
    refine ⟨?_,hU⟩
    rw [HR.out]
    rcases HM.out with h | ⟨v,hv,h1,h2,h3',h4,h5⟩
    · rw [h]; rfl
    · exact absurd ⟨by omega,h5⟩ (HN.out _ h2 (by omega) _ h4)
end Go.Proofs.YtigjingielnaoaaGreatDoor
namespace Go.Proofs.YtigjingielnaoaaGreatDoor
open Go.RowKit
def bAt:List Nat:=[1,2,3,4,5,7,9,13,17,25,33,49,65,97,129,193,257,385,513,769,1025,1537,2049,3073,4097,6145,8193,12289,16385,24577,32769]
theorem za1 : ∀ c:Fin 30,xG (c.val:Nat)=max 0 (((c.val/2:Nat):Int)-1):=by decide +kernel
theorem Vn (c:Nat) (h:30≤c):xG (c:Nat) = -1:=by unfold xG zK; rw [if_pos (.inr (by omega))]
theorem zaz : ∀ c:Fin 30,zK 2 4 30 (c.val:Nat) ≠ -1∧(2:Int)^(zK 2 4 30 (c.val:Nat)).toNat=((bAt.getD (c.val+1) 0-bAt.getD c.val 0:Nat):Int)∧vn 1 2 4 30 c.val=bAt.getD c.val 0∧bAt.getD c.val 0≤bAt.getD (c.val+1) 0∧bAt.getD (c.val+1) 0≤32769:=by decide +kernel
set_option maxRecDepth 100000 in
set_option maxHeartbeats 1600000 in
theorem ZK (c:Nat) (w:World) (hc:c<300):Calls Tryz.prog 213 #[.int .i64 (c:Nat)] w fun e w'=>e = .returned (.int .i64 (xG (c:Nat)))∧Upd [] w w':=by
 by_cases h:c≤29
 · have hf:=za1 ⟨c,by omega⟩
   have HF:=Lib.hid hf
   clear hf
   have t1:decide ((29:Int)<(c:Int))=false:=decide_eq_false (by omega)
   have t2:decide (29<c)=false:=decide_eq_false (by omega)
   have q1:(c:Int).tdiv 2=((c/2:Nat):Int):=by rw [Int.tdiv_eq_ediv_of_nonneg (by omega)]; omega
   have q1':(c:Int)/2=((c/2:Nat):Int):=by omega
   obtain ⟨d,hd⟩ : ∃ d,d=c/2:=⟨_,rfl⟩
   rw [← hd] at q1 q1'
   have HD:=Lib.hid hd
   have hd2:d≤14:=by omega
   clear hd
   have q2:IntKind.i64.wrap ((d:Int)-1)=(d:Int)-1:=IntWalk.i64_in _ (by omega)
   go_enter Tryz.func213,Tryz.ntmps213
   go_wp2
   go_returns
   refine ⟨?_,.refl _ _⟩
   rw [HF.out,← HD.out]
   rfl
 · have hf:=Lib.hid (Vn c (by omega))
   have t1:decide ((29:Int)<(c:Int))=true:=decide_eq_true (by omega)
   have t2:decide (29<c)=true:=decide_eq_true (by omega)
   go_enter Tryz.func213,Tryz.ntmps213
   go_wp2
   go_returns
   exact ⟨by rw [hf.out]; rfl,.refl _ _⟩
set_option maxRecDepth 100000 in
set_option maxHeartbeats 1600000 in
theorem Vz (c m:Nat) (w:World) (hc:c<300) (hm:m<1000000):Calls Tryz.prog 214 #[.int .i64 (c:Nat),.int .i64 (m:Nat)] w fun e w'=>e = .returned (qJ (jn 1 2 4 30 (c:Nat) (m:Nat)))∧Upd [] w w':=by
 by_cases h:c≤29
 · obtain ⟨f1,f2,f3,f4,f5⟩:=zaz ⟨c,by omega⟩
   dsimp only at f1 f2 f3 f4 f5
   have hget : ∀ j,j<31→bAt[j]? =some (bAt.getD j 0):=fun j h=>by rw [List.getD,List.getElem?_eq_getElem (show j<bAt.length from h)]; rfl
   have g1:=hget c (by omega)
   have g2:=hget (c+1) (by omega)
   have hn:jn 1 2 4 30 (c:Nat) (m:Nat)=if m<bAt.getD (c+1) 0-bAt.getD c 0 then some (bAt.getD c 0+m) else none:=by
    unfold jn
    rw [f2,Int.toNat_natCast,Int.toNat_natCast,f3]
    by_cases hlt:m<bAt.getD (c+1) 0-bAt.getD c 0
    · rw [if_neg (by omega),if_pos hlt]
    · rw [if_pos (by omega),if_neg hlt]
   have HN:=Lib.hid hn
   have G1:=Lib.hid g1
   have G2:=Lib.hid g2
   clear f1 f2 f3 g1 g2 hn hget
   generalize bAt.getD (c+1) 0=q at *
   generalize bAt.getD c 0=p at *
   have t1:decide ((29:Int)<(c:Int))=false:=decide_eq_false (by omega)
   have t2:decide (29<c)=false:=decide_eq_false (by omega)
   have hc31:(c:Int)<31:=by omega
   have hc32:(c:Int)+1<31:=by omega
   have hc0:(0:Int)≤(c:Int)+1:=by omega
   have e1:IntKind.i64.wrap ((q:Int)-(p:Int))=(q:Int)-(p:Int):=IntWalk.i64_in _ (by omega)
   have e2:IntKind.i64.wrap ((c:Int)+1)=(c:Int)+1:=IntWalk.i64_in _ (by omega)
   have e3:((c:Int)+1).toNat=c+1:=by omega
   have t4:decide ((c:Int)<0)=false:=decide_eq_false (by omega)
   have t5:decide ((m:Int)<0)=false:=decide_eq_false (by omega)
   have t6:(0:Int)≤(c:Int):=by omega
   go_enter Tryz.func214,Tryz.ntmps214
   go_upto_region 2 with fail
   have hB:=Blk.new w (zy bAt) 3
   have hU:Upd [] w (w.alloc (.cells (zy bAt).toArray 3)):=(Upd.refl [] w).alloc _
   change Code.wp _ _ _ _ (w.alloc (.cells (zy bAt).toArray 3))
   generalize w.alloc (.cells (zy bAt).toArray 3)=w1 at *
   have d1:=hB.cell c (zZ _ _ _ G1.out)
   have d2:=hB.cell (c+1) (zZ _ _ _ G2.out)
   clear hB
   have HU:=Lib.hid hU
   clear hU
   generalize w.heap.size=wb at *
   by_cases hlt:m<q-p
   · have t3:decide ((q:Int)-(p:Int)≤(m:Int))=false:=decide_eq_false (by omega)
     go_wp2
     go_quiet (fail)
     go_wp2
     go_returns
     exact ⟨by rw [HN.out,if_pos hlt]; rfl,HU.out.drewN _⟩
   · have t3:decide ((q:Int)-(p:Int)≤(m:Int))=true:=decide_eq_true (by omega)
     go_wp2
     go_quiet (fail)
     go_wp2
     go_returns
     exact ⟨by rw [HN.out,if_neg hlt]; rfl,HU.out.drewN _⟩
 · have hn:jn 1 2 4 30 (c:Nat) (m:Nat)=none:=by
    unfold jn
    rw [if_pos (.inl (by have:=Vn c (by omega); unfold xG at this; exact this))]
   have HN:=Lib.hid hn
   clear hn
   have t1:decide ((29:Int)<(c:Int))=true:=decide_eq_true (by omega)
   have t2:decide (29<c)=true:=decide_eq_true (by omega)
   have t4:decide ((c:Int)<0)=false:=decide_eq_false (by omega)
   go_enter Tryz.func214,Tryz.ntmps214
   go_upto_region 2 with fail
   have hU:Upd [] w (w.alloc (.cells (zy bAt).toArray 3)):=(Upd.refl [] w).alloc _
   change Code.wp _ _ _ _ (w.alloc (.cells (zy bAt).toArray 3))
   generalize w.alloc (.cells (zy bAt).toArray 3)=w1 at *
   generalize w.heap.size=wb at *
   have HU:=Lib.hid hU
   clear hU
   go_wp2
   go_quiet (fail)
   go_wp2
   go_returns
   exact ⟨by rw [HN.out]; rfl,HU.out.drewN _⟩
end Go.Proofs.YtigjingielnaoaaGreatDoor
namespace Go.Proofs.YtigjingielnaoaaGreatDoor
open Go.RowKit
structure Agree (N:Nat) (s s':ByteArray):Prop where
 le:N≤s.size
 le':N≤s'.size
 eq:(ze s).take N=(ze s').take N
theorem JO (a b:List Nat):yc (a++b)=yc a++yc b:=by simp [yc]
theorem kw (l:List Nat) (N:Nat) (h:N≤l.length):(yc l).take (8*N)=yc (l.take N):=by
 have e:yc l=yc (l.take N)++yc (l.drop N):=by rw [← JO,List.take_append_drop]
 rw [e,List.take_left']
 rw [ke,List.length_take]; omega
theorem Agree.bits {N:Nat} {s s':ByteArray} (h:Agree N s s'):(kh s).take (8*N)=(kh s').take (8*N):=by
 unfold kh
 rw [kw _ _ (by rw [zg]; exact h.le),kw _ _ (by rw [zg]; exact h.le'),h.eq]
def Tr {α:Type} (N:Nat) (s':ByteArray) (r r':Except Nat (α×Nat)):Prop :=
 ∀ v a',r = .ok (v,a')→(a'≤8*N→r' = .ok (v,a'))∧(N=s'.size→8*N<a'→r' = .error 3)
theorem Tr.bind {α β:Type} {N:Nat} {s':ByteArray} {x x':Except Nat (α×Nat)} {f f':α×Nat→Except Nat (β×Nat)} (hx:Tr N s' x x')
 (hf : ∀ v a1,x = .ok (v,a1)→a1≤8*N→Tr N s' (f (v,a1)) (f' (v,a1))) (hm : ∀ v a1 u a2,x = .ok (v,a1)→f (v,a1) = .ok (u,a2)→a1≤a2):Tr N s' (x >>= f) (x' >>= f'):=by
 intro u a2 h
 obtain ⟨⟨v,a1⟩,h1,h2⟩:=yo h
 have hle:=hm v a1 u a2 h1 h2
 obtain ⟨e1,e2⟩:=hx v a1 h1
 by_cases hc:a1≤8*N
 · rw [e1 hc]
   exact hf v a1 h1 hc u a2 h2
 · refine ⟨fun h=>by omega,fun hN _=>?_⟩
   rw [e2 hN (by omega)]; rfl
theorem Tr.map {α β:Type} {N:Nat} {s':ByteArray} {x x':Except Nat (α×Nat)} {f:α×Nat→β×Nat} (hx:Tr N s' x x') (hf : ∀ r,(f r).2=r.2):Tr N s' (x.map f) (x'.map f):=by
 intro u a2 h
 obtain ⟨⟨v,a1⟩,h1,h2⟩:=Yk h
 obtain ⟨e1,e2⟩:=hx v a1 h1
 have:=hf (v,a1)
 rw [h2] at this
 simp only at this
 subst this
 refine ⟨fun h=>?_,fun hN hlt=>?_⟩
 · rw [e1 h]; show Except.ok (f (v,a2))=_; rw [h2]
 · rw [e2 hN hlt]; rfl
section
variable {N:Nat} {s s':ByteArray} (hA:Agree N s s')
include hA
end
end Go.Proofs.YtigjingielnaoaaGreatDoor
