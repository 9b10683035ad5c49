/- Package swingleref19: Read: its walk. -/
import Derived.Test.YtfkcdnaghndgfaaGreatDoorQAQ
import Derived.Test.YtfkcdnaghndgfaaGreatDoorQAP
set_option linter.unusedVariables false
set_option linter.unusedSimpArgs false
set_option linter.unusedSectionVars false
namespace Go.Proofs.YtfkcdnaghndgfaaGreatDoor
open Go.RowKit
set_option maxRecDepth 100000 in
set_option maxHeartbeats 12800000 in
theorem Kb (s:ByteArray) (a:Int) (w:World) (hs:s.size≤1000000):Calls Tryz.prog 31 #[.string s,.int .i64 a] w fun e w'=>e = .returned (zhc (zp s a))∧Upd [] w w':=by
 by_cases ha:a<0∨(s.size:Int)<a∨(s.size:Int)-a<30
 · have HV:Hid (zp s a=(jc,0,false,3)):=Lib.hid (by
    unfold zp
    by_cases h:a<0∨(s.size:Int)<a
    · rw [if_pos h]
    · rw [if_neg h]
      exact if_pos (.inl (by rw [ByteArray.size_extract]; omega)))
   rcases (by omega:a<0∨(¬ a<0∧(s.size:Int)<a)∨(0≤a∧a≤(s.size:Int) ∧ ¬ a<0∧(s.size:Int)-a<30)) with h1 | ⟨h0,h1⟩ | ⟨h2,h3,h0,h1⟩
   all_goals
    clear ha
    go_enter Tryz.func31,Tryz.ntmps31
    go_wp2
    (try simp only [Exit.inBlock,Exit.then]); refine bodyPost_ret (xx rfl _ _ w.heap.size _ _ _ _ _ _ _ _ _ rfl ((Blk.new w [.string .empty,.int .i64 0,.int .u32 0,.int .i64 0,.int .i64 0,.int .i64 0,.int .i64 0,.int .u32 0,.int .i64 0] 26).alloc _)) rfl ⟨?_,((Upd.refl [] w).alloc _).alloc _⟩
    rw [HV.out]; rfl
 obtain ⟨i,rfl⟩ : ∃ i:Nat,a=i:=⟨a.toNat,by omega⟩
 have hi0:(0:Int)≤(i:Int):=by omega
 have hi1:(i:Int)≤(s.size:Int):=by omega
 have hz : ¬ (s.size:Int)-(i:Int)<30:=by omega
 obtain ⟨x,hx⟩ : ∃ x,s.extract i s.size=x:=⟨_,rfl⟩
 have hxs:x.size=s.size-i:=by rw [← hx,ByteArray.size_extract]; omega
 have hxm:x.size≤1000000:=by omega
 have h30:30≤x.size:=by omega
 have HV0:Hid (zp s i=Xa x i):=Lib.hid (by unfold zp; rw [if_neg (by omega),← hx]; rfl)
 have HXD:=Lib.hid hx
 clear ha hx hxs
 obtain ⟨be,gbe⟩ : ∃ n,gN x 0 4=n:=⟨_,rfl⟩
 obtain ⟨lo,glo,blo,Alo⟩:=Wj x 26 2 (by omega) hxm (by omega)
 obtain ⟨mo,gmo,bmo,Amo⟩:=Wj x 28 2 (by omega) hxm (by omega)
 obtain ⟨fl,gfl,bfl,Afl⟩:=Wj x 6 2 (by omega) hxm (by omega)
 obtain ⟨me,gme,bme,Ame⟩:=Wj x 8 2 (by omega) hxm (by omega)
 obtain ⟨ti,gti,bti,Ati⟩:=Wj x 10 4 (by omega) hxm (by omega)
 obtain ⟨su,gsu,bsu,Asu⟩:=Wj x 14 4 (by omega) hxm (by omega)
 obtain ⟨la,gla,bla,Ala⟩:=Wj x 18 4 (by omega) hxm (by omega)
 obtain ⟨wh,gwh,bwh,Awh⟩:=Wj x 22 4 (by omega) hxm (by omega)
 have HVX:Hid (Xa x i=if x.size<30+lo+mo then (jc,0,false,3)
  else if Xv ⟨be,fl,me,ti,su,la,wh,((za x).drop 30).take lo⟩=false then (jc,0,false,2)
  else if (zS (((za x).drop 30).take lo)).2.2=false then (jc,0,false,5)
  else if xq ((zS (((za x).drop 30).take lo)).2.1:Nat) ti=false then (jc,0,false,13)
  else (⟨zd (zS (((za x).drop 30).take lo)).1,me,su,la,wh,((zS (((za x).drop 30).take lo)).2.1:Nat),0,ti,i⟩,30+lo+mo,decide (fl=2056),0)):=Lib.hid (by
  have hl:vY x=30+lo+mo:=by unfold vY; rw [glo,gmo]
  unfold Xa
  by_cases hh:x.size<30+lo+mo
  · rw [if_pos hh,if_pos (.inr (by rw [hl]; exact hh))]
  · rw [if_neg hh,if_neg (by rw [hl]; omega),WK x h30 (by rw [hl]; omega),gbe,gfl,gme,gti,gsu,gla,gwh,glo,hl]
    rfl)
 have HM:=Lib.hid (zgh x (by omega) [80,75,3,4] 67324752 rfl (by decide))
 rw [gbe] at HM
 have hnm:za (x.extract 30 (30+lo))=((za x).drop 30).take lo:=by rw [zI,Nat.add_sub_cancel_left]
 have HPT:=Lib.hid (fun w=>QT (x.extract 30 (30+lo)) w (by rw [ByteArray.size_extract]; omega))
 rw [hnm] at HPT
 have HPS:=Lib.hid (fun h=>zb6 (l:=((za x).drop 30).take lo) h)
 generalize ((za x).drop 30).take lo=nm at *
 generalize zS nm=PP at *
 obtain ⟨pa,kk,okb⟩:=PP
 unfold Yz at HPT
 dsimp only at HPT HPS HVX
 simp only [Nat.reducePow] at blo bmo bfl bme bti bsu bla bwh
 have E1:Hid ((((fl:Int) != 2048)=decide (fl≠2048)∧((fl:Int) != 2056)=decide (fl≠2056))∧(((me:Int) != 0)=decide (me≠0)∧((me:Int) != 8)=decide (me≠8))∧((fl:Int)==2056)=decide (fl=2056)∧(((su:Int) != 0)=decide (su≠0)∧((la:Int) != 0)=decide (la≠0)∧((wh:Int) != 0)=decide (wh≠0))):=Lib.hid (by
  refine ⟨⟨?_,?_⟩,⟨?_,?_⟩,?_,?_,?_,?_⟩
  all_goals (rw [Bool.eq_iff_iff]; simp<;>omega))
 have HV:=Lib.hid (HV0.out.trans HVX.out)
 clear HV0 HVX hnm gbe glo gmo gfl gme gti gsu gla gwh
 go_enter Tryz.func31,Tryz.ntmps31
 go_wp2_with fail
 rw [HXD.out]
 have S:=Lib.hid (Rd3.new w)
 refine (Alo.out _).mono ?_
 rintro e w1 ⟨rfl,hu⟩
 have S:=Lib.hid (S.out.upd hu)
 clear hu HXD hi0 hi1 hz
 go_wp2_with fail
 refine (Amo.out _).mono ?_
 rintro e w1 ⟨rfl,hu⟩
 have S:=Lib.hid (S.out.upd hu)
 clear hu
 generalize w.heap.size=r0 at *
 by_cases hlen:x.size<30+lo+mo
 · have HV:=Lib.hid (HV.out.trans (if_pos hlen))
   have cA:=S.out.2.1.all
   have dA:=S.out.2.2.1.all
   have fA:=S.out.2.1.frz
   go_wp2_with fail
   (try simp only [Exit.inBlock,Exit.then]); refine bodyPost_ret (xx rfl _ _ r0 _ _ _ _ _ _ _ _ _ rfl (Blk.set9 S.out.2.1 _ _ _ _ _ _ _ _ _)) rfl ⟨?_,Upd.set9 S.out.2.2.2 (.inr S.out.1) _ _ _ _ _ _ _ _ _⟩
   rw [HV.out]; rfl
 have HV:=Lib.hid (HV.out.trans (if_neg hlen))
 have hl1:30+lo+mo≤x.size:=by omega
 clear hlen
 go_wp2_with fail
 refine (Afl.out _).mono ?_
 rintro e w1 ⟨rfl,hu⟩
 have S:=Lib.hid (S.out.upd hu)
 clear hu
 go_wp2_with fail
 refine (Ame.out _).mono ?_
 rintro e w1 ⟨rfl,hu⟩
 have S:=Lib.hid (S.out.upd hu)
 clear hu
 by_cases hg:be=67324752∧(fl=2048∨fl=2056)∧(me=0∨me=8)
 rotate_left
 · have HV:=Lib.hid (HV.out.trans (if_pos (by unfold Xv; simp; omega)))
   obtain ⟨⟨t1,t2⟩,⟨t3,t4⟩,_⟩:=E1.out
   have tm:=HM.out
   clear E1 HM Ati Asu Ala Awh HPT HPS
   rcases (by omega:be≠67324752∨(be=67324752∧fl≠2048∧fl≠2056)∨(be=67324752∧fl=2048∧me≠0∧me≠8)∨(be=67324752∧fl=2056∧me≠0∧me≠8)) with h | ⟨h,h1,h2⟩ | ⟨h,h1,h2,h3⟩ | ⟨h,h1,h2,h3⟩
   all_goals
    simp only [h,decide_true,decide_false] at tm
    try simp only [h1,h2,decide_true,decide_false,ne_eq,not_true,not_false_eq_true,reduceCtorEq] at t1 t2
    try simp only [h2,h3,decide_true,decide_false,ne_eq,not_true,not_false_eq_true] at t3 t4
    clear hg
    have cA:=S.out.2.1.all
    have dA:=S.out.2.2.1.all
    have fA:=S.out.2.1.frz
    go_wp2_with fail
    (try simp only [Exit.inBlock,Exit.then]); refine bodyPost_ret (xx rfl _ _ r0 _ _ _ _ _ _ _ _ _ rfl (Blk.set9 S.out.2.1 _ _ _ _ _ _ _ _ _)) rfl ⟨?_,Upd.set9 S.out.2.2.2 (.inr S.out.1) _ _ _ _ _ _ _ _ _⟩
    rw [HV.out]; rfl
 obtain ⟨hg1,hg2,hg3⟩:=hg
 have hm2:(me=0∨me=8):=hg3
 have hf2:(fl=2048∨fl=2056):=hg2
 have HM2:=Lib.hid (And.intro hf2 hm2)
 clear hm2 hf2
 go_upto_region 9 with fail
 go_cut [71] (fun s71 wx=>s71 = .bool false∧Hid (Rd3 w r0 wx))
 case first =>
  obtain ⟨⟨t1,t2⟩,⟨t3,t4⟩,_⟩:=E1.out
  have tm:=HM.out
  simp only [hg1,decide_true] at tm
  rcases hg2 with h1 | h1<;>rcases hg3 with h2 | h2
  all_goals
   subst h1 h2
   go_wp2
   go_meet
   exact ⟨rfl,S⟩
 case rest =>
 obtain ⟨rfl,S⟩:=hcut
 clear hg2 hg3
 go_wp2_with fail
 refine (Ati.out _).mono ?_
 rintro e w1 ⟨rfl,hu⟩
 have S:=Lib.hid (S.out.upd hu)
 clear hu
 go_wp2_with fail
 refine (Asu.out _).mono ?_
 rintro e w1 ⟨rfl,hu⟩
 have S:=Lib.hid (S.out.upd hu)
 clear hu
 go_wp2_with fail
 refine (Ala.out _).mono ?_
 rintro e w1 ⟨rfl,hu⟩
 have S:=Lib.hid (S.out.upd hu)
 clear hu
 go_wp2_with fail
 refine (Awh.out _).mono ?_
 rintro e w1 ⟨rfl,hu⟩
 have S:=Lib.hid (S.out.upd hu)
 clear hu
 have hq0:=S.out.2.2.1.lt
 have HQ:=Lib.hid (Blk.new w1 [.string { data := #[] },.int .i64 (me:Nat),.int .u32 (su:Nat),.int .i64 (la:Nat),.int .i64 (wh:Nat),.int .i64 0,.int .i64 0,.int .u32 (ti:Nat),.int .i64 (i:Nat)] 26)
 have S:=Lib.hid (S.out.upd ((Upd.refl [] w1).alloc (.cells #[.string { data := #[] },.int .i64 (me:Nat),.int .u32 (su:Nat),.int .i64 (la:Nat),.int .i64 (wh:Nat),.int .i64 0,.int .i64 0,.int .u32 (ti:Nat),.int .i64 (i:Nat)] 26)))
 go_upto_region 12 with fail
 change Code.wp _ _ _ _ (w1.alloc (.cells #[.string { data := #[] },.int .i64 (me:Nat),.int .u32 (su:Nat),.int .i64 (la:Nat),.int .i64 (wh:Nat),.int .i64 0,.int .i64 0,.int .u32 (ti:Nat),.int .i64 (i:Nat)] 26))
 generalize w1.alloc (.cells #[.string { data := #[] },.int .i64 (me:Nat),.int .u32 (su:Nat),.int .i64 (la:Nat),.int .i64 (wh:Nat),.int .i64 0,.int .i64 0,.int .u32 (ti:Nat),.int .i64 (i:Nat)] 26)=w2 at *
 generalize w1.heap.size=q0 at *
 obtain ⟨B,hB⟩ : ∃ B,decide (fl=2056 ∧ ¬ (su=0∧la=0∧wh=0))=B:=⟨_,rfl⟩
 have HBB:=Lib.hid hB
 clear hB
 go_cut [102] (fun s102 wx=>s102 = .bool B∧Hid (Rd3 w r0 wx)∧Hid (Blk wx q0 [.string { data := #[] },.int .i64 (me:Nat),.int .u32 (su:Nat),.int .i64 (la:Nat),.int .i64 (wh:Nat),.int .i64 0,.int .i64 0,.int .u32 (ti:Nat),.int .i64 (i:Nat)] 26))
 case first =>
  obtain ⟨_,_,t5,t6,t7,t8⟩:=E1.out
  have gA:=HQ.out.all
  rcases (by omega:fl≠2056∨(fl=2056∧su≠0)∨(fl=2056∧su=0∧la≠0)∨(fl=2056∧su=0∧la=0∧wh≠0)∨(fl=2056∧su=0∧la=0∧wh=0)) with h | ⟨h,h1⟩ | ⟨h,h1,h2⟩ | ⟨h,h1,h2,h3⟩ | ⟨h,h1,h2,h3⟩
  all_goals
   simp only [h,decide_true,decide_false] at t5
   try simp only [h1,ne_eq,not_true,not_false_eq_true,decide_true,decide_false] at t6
   try simp only [h2,ne_eq,not_true,not_false_eq_true,decide_true,decide_false] at t7
   try simp only [h3,ne_eq,not_true,not_false_eq_true,decide_true,decide_false] at t8
   have HB2:=HBB.out
   simp [*] at HB2
   subst HB2
   go_wp2
   go_meet
   exact ⟨rfl,S,HQ⟩
 case rest =>
 obtain ⟨rfl,S,HQ⟩:=hcut
 cases B with
 | true =>
   have HV:=Lib.hid (HV.out.trans (if_pos (by have:=of_decide_eq_true HBB.out; unfold Xv; simp; omega)))
   have cA:=S.out.2.1.all
   have dA:=S.out.2.2.1.all
   have fA:=S.out.2.1.frz
   go_wp2_with fail
   (try simp only [Exit.inBlock,Exit.then]); refine bodyPost_ret (xx rfl _ _ r0 _ _ _ _ _ _ _ _ _ rfl (Blk.set9 S.out.2.1 _ _ _ _ _ _ _ _ _)) rfl ⟨?_,Upd.set9 S.out.2.2.2 (.inr S.out.1) _ _ _ _ _ _ _ _ _⟩
   rw [HV.out]; rfl
 | false =>
 have HV:=Lib.hid (HV.out.trans (if_neg (by have:=of_decide_eq_false HBB.out; have:=HM2.out; unfold Xv; simp; omega)))
 go_wp2_with fail
 refine (HPT.out _).mono ?_
 rintro e w3 ⟨rfl,hu⟩
 have S:=Lib.hid (S.out.upd hu)
 have HQ:=Lib.hid (HQ.out.upd hu (by simp))
 clear hu HBB HPT
 cases okb with
 | false =>
   have HV:=Lib.hid (HV.out.trans (if_pos rfl))
   have cA:=S.out.2.1.all
   have dA:=S.out.2.2.1.all
   have fA:=S.out.2.1.frz
   go_wp2_with fail
   (try simp only [Exit.inBlock,Exit.then]); refine bodyPost_ret (xx rfl _ _ r0 _ _ _ _ _ _ _ _ _ rfl (Blk.set9 S.out.2.1 _ _ _ _ _ _ _ _ _)) rfl ⟨?_,Upd.set9 S.out.2.2.2 (.inr S.out.1) _ _ _ _ _ _ _ _ _⟩
   rw [HV.out]; rfl
 | true =>
 have HV:=Lib.hid (HV.out.trans (if_neg (by simp)))
 have hps:=HPS.out rfl
 have HTM:=Lib.hid (fun w=>VA (⟨zd pa,me,su,la,wh,(kk:Nat),0,ti,(i:Nat)⟩:RecD) w ⟨by dsimp only; rw [zo]; omega,by dsimp only; omega,by dsimp only; omega⟩)
 unfold RecD.v at HTM
 dsimp only at HTM
 generalize xq (kk:Int) ti=tb at *
 have gA:=HQ.out.all
 have kA:=HQ.out.frz
 go_wp2_with fail
 refine (HTM.out _).mono ?_
 rintro e w4 ⟨rfl,hu⟩
 have S:=Lib.hid (((S.out.far (o:=0) hq0 (.string (zd pa))).far (o:=5) hq0 (.int .i64 (kk:Nat))).upd hu)
 have HQ:=Lib.hid (((HQ.out.set 0 (.string (zd pa))).set 5 (.int .i64 (kk:Nat))).upd hu (by simp))
 clear gA kA hu HTM HPS
 cases tb with
 | false =>
   have HV:=Lib.hid (HV.out.trans (if_pos rfl))
   have cA:=S.out.2.1.all
   have dA:=S.out.2.2.1.all
   have fA:=S.out.2.1.frz
   go_wp2_with fail
   (try simp only [Exit.inBlock,Exit.then]); refine bodyPost_ret (xx rfl _ _ r0 _ _ _ _ _ _ _ _ _ rfl (Blk.set9 S.out.2.1 _ _ _ _ _ _ _ _ _)) rfl ⟨?_,Upd.set9 S.out.2.2.2 (.inr S.out.1) _ _ _ _ _ _ _ _ _⟩
   rw [HV.out]; rfl
 | true =>
 have HV:=Lib.hid (HV.out.trans (if_neg (by simp)))
 have t5:=E1.out.2.2.1
 have gA:=HQ.out.all
 have cA:=S.out.2.1.all
 have dA:=S.out.2.2.1.all
 have fA:=S.out.2.1.frz
 go_wp2_with fail
 (try simp only [Exit.inBlock,Exit.then]); refine bodyPost_ret (xx rfl _ _ r0 _ _ _ _ _ _ _ _ _ rfl (Blk.set9 S.out.2.1 _ _ _ _ _ _ _ _ _)) rfl ⟨?_,Upd.set9 S.out.2.2.2 (.inr S.out.1) _ _ _ _ _ _ _ _ _⟩
 rw [HV.out]; simp [zhc,RecD.v]
end Go.Proofs.YtfkcdnaghndgfaaGreatDoor
namespace Go.Proofs.YtfkcdnaghndgfaaGreatDoor
open Go.RowKit
theorem yL (n:Int):yd n=!(decide (n<0)||decide (2147483647<n)):=by
 unfold yd
 rw [Bool.eq_iff_iff]
 simp
 omega
theorem zb0 {r:RecD} (h:r.m≠0∧r.m≠8):xj r=false:=by unfold xj; rw [if_pos (.inl h)]
theorem zbS {r:RecD} (h:yd r.l=false):xj r=false:=by unfold xj; rw [if_pos (.inr (.inl h))]
theorem zcl {r:RecD} (h:yd r.wh=false):xj r=false:=by unfold xj; rw [if_pos (.inr (.inr (.inl h)))]
theorem zbp {r:RecD} (h:yd r.pos=false):xj r=false:=by unfold xj; rw [if_pos (.inr (.inr (.inr h)))]
theorem zb4 {r:RecD} (hm:r.m=0∨r.m=8) (h1:yd r.l=true) (h2:yd r.wh=true) (h3:yd r.pos=true) :
 xj r=if r.k=2 then decide (r.sum=0)&&decide (r.l=0)&&decide (r.wh=0)&&decide (r.m=0) else decide (r.m=8)||decide (r.l=r.wh):=by
 unfold xj
 rw [h1,h2,h3,if_neg]
 simp
 omega
set_option maxRecDepth 100000 in
set_option maxHeartbeats 8000000 in
theorem Ku (r:RecD) (w:World) (h:r.Fits):Calls Tryz.prog 30 #[r.v] w fun e w'=>e = .returned (.int .i64 (yt r:Nat))∧Upd [] w w':=by
 have hp:=h.p
 have hsz:(zd (zl r.k r.p)).size≤1100000:=by have:=xp r.k r.p; rw [zo]; omega
 have HN:=Lib.hid (fun w=>vK r w h)
 have HP:=Lib.hid (fun w=>QT (zd (zl r.k r.p)) w hsz)
 rw [zx _ (qf r.k r.p)] at HP
 have HT:=Lib.hid (fun w=>VA r w h)
 have HE:Hid (yt r=if xM r=false then 5 else if xj r=false then 2 else if r.md<0∨511<r.md then 12 else if xq r.k r.t=false then 13 else 0):=Lib.hid rfl
 have HB:Hid (xM r=((zS (zl r.k r.p)).2.2&&decide ((zS (zl r.k r.p)).1=za r.p)&&decide (((zS (zl r.k r.p)).2.1:Int)=r.k))):=Lib.hid rfl
 have HA:Hid (∀ x∈(zS (zl r.k r.p)).1,x<256):=Lib.hid (ZZ (qf r.k r.p))
 have L1:=Lib.hid (@zb0 r)
 have L2:=Lib.hid (@zbS r)
 have L3:=Lib.hid (@zcl r)
 have L4:=Lib.hid (@zbp r)
 have L5:=Lib.hid (@zb4 r)
 generalize yt r=E at *
 generalize xq r.k r.t=tb at *
 generalize xj r=lb at *
 generalize xM r=nb at *
 generalize zS (zl r.k r.p)=pp at *
 generalize zd (zl r.k r.p)=S at *
 clear hsz
 obtain ⟨a,kk,okb⟩:=pp
 unfold Yz at HP
 dsimp only at HP HB HA
 obtain ⟨p,m,sum,l,wh,k,md,t,pos⟩:=r
 unfold RecD.v at *
 dsimp only at *
 have HQ:=Lib.hid (vu a p HA.out)
 clear HA
 go_enter Tryz.func30,Tryz.ntmps30
 go_wp2_with fail
 refine (HN.out _).mono ?_
 rintro e w1 ⟨rfl,hU1⟩
 go_wp2_with fail
 refine (HP.out _).mono ?_
 rintro e w2 ⟨rfl,hU2⟩
 have hU:Upd [] w w2:=(((Upd.refl [] w).alloc _).then hU1).then hU2
 have hB:=((Blk.new w [.string p,.int .i64 m,.int .u32 (sum:Nat),.int .i64 l,.int .i64 wh,.int .i64 k,.int .i64 md,.int .u32 (t:Nat),.int .i64 pos] 26).upd hU1 (by simp)).upd hU2 (by simp)
 generalize w.heap.size=b0 at *
 have cA:=hB.all
 have HBB:=Lib.hid hB
 have HU:=Lib.hid hU
 clear hB hU hU1 hU2
 by_cases hn:okb=true∧(zd a).toList=p.toList∧(kk:Int)=k
 · obtain ⟨rfl,h2,h4⟩:=hn
   have hnb:nb=true:=by
    have h2':=h2
    rw [HQ.out] at h2'
    rw [HB.out]
    simp [h2',h4]
   have h3:((kk:Int) != k)=false:=by simpa using h4
   rw [hnb,if_neg (by simp)] at HE
   clear hnb h4 HB HQ HP HN
   by_cases hm:m=0∨m=8
   rotate_left
   · have hlb:lb=false:=L1.out (by omega)
     have hm0 : ¬ m=0:=by omega
     have hm8 : ¬ m=8:=by omega
     have t0:(m != 0)=true:=by simpa using hm0
     have t8:(m != 8)=true:=by simpa using hm8
     clear hm
     go_wp2_with fail
     go_ret
     exact ⟨by rw [HE.out,hlb]; rfl,HU.out⟩
   · have L6:=Lib.hid (L5.out hm)
     clear L1 L5
     rcases hm with rfl | rfl
     · go_wp2_with fail
       have HW:Hid (Upd [] w (w2.alloc (.cells #[.int .i64 l,.int .i64 wh,.int .i64 pos] 3))):=Lib.hid (HU.out.alloc _)
       have hB3:=HBB.out.alloc (.cells #[.int .i64 l,.int .i64 wh,.int .i64 pos] 3)
       have hS:=Blk.new w2 [.int .i64 l,.int .i64 wh,.int .i64 pos] 3
       change Code.wp _ _ _ _ (w2.alloc (.cells [.int .i64 l,.int .i64 wh,.int .i64 pos].toArray 3))
       change Blk (w2.alloc (.cells [.int .i64 l,.int .i64 wh,.int .i64 pos].toArray 3)) _ _ _ at hB3
       change Hid (Upd [] w (w2.alloc (.cells [.int .i64 l,.int .i64 wh,.int .i64 pos].toArray 3))) at HW
       generalize w2.alloc (.cells [.int .i64 l,.int .i64 wh,.int .i64 pos].toArray 3)=w3 at *
       generalize w2.heap.size=b3 at *
       have dA:=hB3.all
       have eA:=hS.all
       clear hS hB3 HBB cA
       go_loopg [7,45] 3 (fun gg s7 s45 wr => ∃ i,i≤3∧gg=3-i∧s45 = .int .i64 (i:Nat)∧Hid (0<i→yd l=true)∧Hid (1<i→yd wh=true)∧Hid (2<i→yd pos=true)∧wr=w3)
       case atStart=>exact ⟨0,by omega,rfl,rfl,Lib.hid (by omega),Lib.hid (by omega),Lib.hid (by omega),rfl⟩
       case round =>
        obtain ⟨i,hi,rfl,rfl,S1,S2,S3,rfl⟩:=hrel
        have hcs:i=0∨i=1∨i=2∨i=3:=by omega
        rcases hcs with rfl | rfl | rfl | rfl
        · cases hs:yd l with
          | true =>
            have hs':=hs
            rw [yL] at hs'
            have q0 : ¬ l<0:=by simp at hs'; omega
            have q1 : ¬ 2147483647<l:=by simp at hs'; omega
            clear hs'
            have HS:=Lib.hid hs
            clear hs
            go_wp2_with fail
            have hs:=HS.out
            go_roundg (3-1)
            all_goals first
             | omega
             | exact ⟨1,by omega,rfl,rfl,Lib.hid (fun _=>hs),Lib.hid (by omega),Lib.hid (by omega),rfl⟩
          | false =>
            have hlb:lb=false:=L2.out hs
            have hs':=hs
            rw [yL] at hs'
            have q0:l<0∨2147483647<l:=by simp at hs'; omega
            clear hs' hs
            rcases q0 with q0 | q0
            · go_wp2_with fail
              go_ret
              exact ⟨by rw [HE.out,hlb]; rfl,HW.out⟩
            · have q1 : ¬ l<0:=by omega
              go_wp2_with fail
              go_ret
              exact ⟨by rw [HE.out,hlb]; rfl,HW.out⟩
        · cases hs:yd wh with
          | true =>
            have hs':=hs
            rw [yL] at hs'
            have q0 : ¬ wh<0:=by simp at hs'; omega
            have q1 : ¬ 2147483647<wh:=by simp at hs'; omega
            clear hs'
            have HS:=Lib.hid hs
            clear hs
            go_wp2_with fail
            have hs:=HS.out
            go_roundg (3-2)
            all_goals first
             | omega
             | exact ⟨2,by omega,rfl,rfl,Lib.hid (fun _=>S1.out (by omega)),Lib.hid (fun _=>hs),Lib.hid (by omega),rfl⟩
          | false =>
            have hlb:lb=false:=L3.out hs
            have hs':=hs
            rw [yL] at hs'
            have q0:wh<0∨2147483647<wh:=by simp at hs'; omega
            clear hs' hs
            rcases q0 with q0 | q0
            · go_wp2_with fail
              go_ret
              exact ⟨by rw [HE.out,hlb]; rfl,HW.out⟩
            · have q1 : ¬ wh<0:=by omega
              go_wp2_with fail
              go_ret
              exact ⟨by rw [HE.out,hlb]; rfl,HW.out⟩
        · cases hs:yd pos with
          | true =>
            have hs':=hs
            rw [yL] at hs'
            have q0 : ¬ pos<0:=by simp at hs'; omega
            have q1 : ¬ 2147483647<pos:=by simp at hs'; omega
            clear hs'
            have HS:=Lib.hid hs
            clear hs
            go_wp2_with fail
            have hs:=HS.out
            go_roundg (3-3)
            all_goals first
             | omega
             | exact ⟨3,by omega,rfl,rfl,Lib.hid (fun _=>S1.out (by omega)),Lib.hid (fun _=>S2.out (by omega)),Lib.hid (fun _=>hs),rfl⟩
          | false =>
            have hlb:lb=false:=L4.out hs
            have hs':=hs
            rw [yL] at hs'
            have q0:pos<0∨2147483647<pos:=by simp at hs'; omega
            clear hs' hs
            rcases q0 with q0 | q0
            · go_wp2_with fail
              go_ret
              exact ⟨by rw [HE.out,hlb]; rfl,HW.out⟩
            · have q1 : ¬ pos<0:=by omega
              go_wp2_with fail
              go_ret
              exact ⟨by rw [HE.out,hlb]; rfl,HW.out⟩
        · have L7:=Lib.hid (L6.out (S1.out (by omega)) (S2.out (by omega)) (S3.out (by omega)))
          clear L2 L3 L4 L6 S1 S2 S3 eA
          by_cases hk:k=2
          · subst hk
            by_cases hz:sum=0∧l=0∧wh=0
            · obtain ⟨rfl,rfl,rfl⟩:=hz
              have hlb:lb=true:=by rw [L7.out]; rfl
              clear L7
              by_cases hmd:md<0∨511<md
              · have HX:Hid (E=12):=Lib.hid (by rw [HE.out,hlb,if_neg (by simp),if_pos hmd])
                clear HE
                rcases hmd with hmd | hmd
                · go_wp2_with fail
                  go_ret
                  exact ⟨by rw [HX.out]; rfl,HW.out⟩
                · have hm0 : ¬ md<0:=by omega
                  go_wp2_with fail
                  go_ret
                  exact ⟨by rw [HX.out]; rfl,HW.out⟩
              · have HX:Hid (E=if tb=false then 13 else 0):=Lib.hid (by rw [HE.out,hlb,if_neg (by simp),if_neg hmd])
                have hm0 : ¬ md<0:=by omega
                have hm1 : ¬ 511<md:=by omega
                clear HE hmd
                go_wp2_with fail
                refine (HT.out _).mono ?_
                rintro e w4 ⟨rfl,hU4⟩
                have HG:=Lib.hid (HW.out.then hU4)
                clear hU4 dA
                cases tb with
                | false =>
                  go_wp2
                  go_ret
                  exact ⟨by rw [HX.out]; rfl,HG.out⟩
                | true =>
                  go_wp2
                  go_ret
                  exact ⟨by rw [HX.out]; rfl,HG.out⟩
            · have hlb:lb=false:=by rw [L7.out,if_pos rfl]; simp; omega
              clear L7
              have hz':(sum:Int)≠0∨l≠0∨wh≠0:=by omega
              rcases hz' with hz' | hz' | hz'
              all_goals (have hz'':=hz'; rw [← bne_iff_ne] at hz''; go_wp2_with fail)
              all_goals (go_ret; exact ⟨by rw [HE.out,hlb]; rfl,HW.out⟩)
          · have t2:(k==2)=false:=by simpa using hk
            by_cases hz:l=wh
            · subst hz
              have hlb:lb=true:=by rw [L7.out,if_neg hk]; simp
              clear L7
              by_cases hmd:md<0∨511<md
              · have HX:Hid (E=12):=Lib.hid (by rw [HE.out,hlb,if_neg (by simp),if_pos hmd])
                clear HE
                rcases hmd with hmd | hmd
                · go_wp2_with fail
                  go_ret
                  exact ⟨by rw [HX.out]; rfl,HW.out⟩
                · have hm0 : ¬ md<0:=by omega
                  go_wp2_with fail
                  go_ret
                  exact ⟨by rw [HX.out]; rfl,HW.out⟩
              · have HX:Hid (E=if tb=false then 13 else 0):=Lib.hid (by rw [HE.out,hlb,if_neg (by simp),if_neg hmd])
                have hm0 : ¬ md<0:=by omega
                have hm1 : ¬ 511<md:=by omega
                clear HE hmd
                go_wp2_with fail
                refine (HT.out _).mono ?_
                rintro e w4 ⟨rfl,hU4⟩
                have HG:=Lib.hid (HW.out.then hU4)
                clear hU4 dA
                cases tb with
                | false =>
                  go_wp2
                  go_ret
                  exact ⟨by rw [HX.out]; rfl,HG.out⟩
                | true =>
                  go_wp2
                  go_ret
                  exact ⟨by rw [HX.out]; rfl,HG.out⟩
            · have hlb:lb=false:=by rw [L7.out,if_neg hk]; simp [hz]
              clear L7
              have tz:(l != wh)=true:=by simpa using hz
              go_wp2_with fail
              go_ret
              exact ⟨by rw [HE.out,hlb]; rfl,HW.out⟩
     · go_wp2_with fail
       have HW:Hid (Upd [] w (w2.alloc (.cells #[.int .i64 l,.int .i64 wh,.int .i64 pos] 3))):=Lib.hid (HU.out.alloc _)
       have hB3:=HBB.out.alloc (.cells #[.int .i64 l,.int .i64 wh,.int .i64 pos] 3)
       have hS:=Blk.new w2 [.int .i64 l,.int .i64 wh,.int .i64 pos] 3
       change Code.wp _ _ _ _ (w2.alloc (.cells [.int .i64 l,.int .i64 wh,.int .i64 pos].toArray 3))
       change Blk (w2.alloc (.cells [.int .i64 l,.int .i64 wh,.int .i64 pos].toArray 3)) _ _ _ at hB3
       change Hid (Upd [] w (w2.alloc (.cells [.int .i64 l,.int .i64 wh,.int .i64 pos].toArray 3))) at HW
       generalize w2.alloc (.cells [.int .i64 l,.int .i64 wh,.int .i64 pos].toArray 3)=w3 at *
       generalize w2.heap.size=b3 at *
       have dA:=hB3.all
       have eA:=hS.all
       clear hS hB3 HBB cA
       go_loopg [7,45] 3 (fun gg s7 s45 wr => ∃ i,i≤3∧gg=3-i∧s45 = .int .i64 (i:Nat)∧Hid (0<i→yd l=true)∧Hid (1<i→yd wh=true)∧Hid (2<i→yd pos=true)∧wr=w3)
       case atStart=>exact ⟨0,by omega,rfl,rfl,Lib.hid (by omega),Lib.hid (by omega),Lib.hid (by omega),rfl⟩
       case round =>
        obtain ⟨i,hi,rfl,rfl,S1,S2,S3,rfl⟩:=hrel
        have hcs:i=0∨i=1∨i=2∨i=3:=by omega
        rcases hcs with rfl | rfl | rfl | rfl
        · cases hs:yd l with
          | true =>
            have hs':=hs
            rw [yL] at hs'
            have q0 : ¬ l<0:=by simp at hs'; omega
            have q1 : ¬ 2147483647<l:=by simp at hs'; omega
            clear hs'
            have HS:=Lib.hid hs
            clear hs
            go_wp2_with fail
            have hs:=HS.out
            go_roundg (3-1)
            all_goals first
             | omega
             | exact ⟨1,by omega,rfl,rfl,Lib.hid (fun _=>hs),Lib.hid (by omega),Lib.hid (by omega),rfl⟩
          | false =>
            have hlb:lb=false:=L2.out hs
            have hs':=hs
            rw [yL] at hs'
            have q0:l<0∨2147483647<l:=by simp at hs'; omega
            clear hs' hs
            rcases q0 with q0 | q0
            · go_wp2_with fail
              go_ret
              exact ⟨by rw [HE.out,hlb]; rfl,HW.out⟩
            · have q1 : ¬ l<0:=by omega
              go_wp2_with fail
              go_ret
              exact ⟨by rw [HE.out,hlb]; rfl,HW.out⟩
        · cases hs:yd wh with
          | true =>
            have hs':=hs
            rw [yL] at hs'
            have q0 : ¬ wh<0:=by simp at hs'; omega
            have q1 : ¬ 2147483647<wh:=by simp at hs'; omega
            clear hs'
            have HS:=Lib.hid hs
            clear hs
            go_wp2_with fail
            have hs:=HS.out
            go_roundg (3-2)
            all_goals first
             | omega
             | exact ⟨2,by omega,rfl,rfl,Lib.hid (fun _=>S1.out (by omega)),Lib.hid (fun _=>hs),Lib.hid (by omega),rfl⟩
          | false =>
            have hlb:lb=false:=L3.out hs
            have hs':=hs
            rw [yL] at hs'
            have q0:wh<0∨2147483647<wh:=by simp at hs'; omega
            clear hs' hs
            rcases q0 with q0 | q0
            · go_wp2_with fail
              go_ret
              exact ⟨by rw [HE.out,hlb]; rfl,HW.out⟩
            · have q1 : ¬ wh<0:=by omega
              go_wp2_with fail
              go_ret
              exact ⟨by rw [HE.out,hlb]; rfl,HW.out⟩
        · cases hs:yd pos with
          | true =>
            have hs':=hs
            rw [yL] at hs'
            have q0 : ¬ pos<0:=by simp at hs'; omega
            have q1 : ¬ 2147483647<pos:=by simp at hs'; omega
            clear hs'
            have HS:=Lib.hid hs
            clear hs
            go_wp2_with fail
            have hs:=HS.out
            go_roundg (3-3)
            all_goals first
             | omega
             | exact ⟨3,by omega,rfl,rfl,Lib.hid (fun _=>S1.out (by omega)),Lib.hid (fun _=>S2.out (by omega)),Lib.hid (fun _=>hs),rfl⟩
          | false =>
            have hlb:lb=false:=L4.out hs
            have hs':=hs
            rw [yL] at hs'
            have q0:pos<0∨2147483647<pos:=by simp at hs'; omega
            clear hs' hs
            rcases q0 with q0 | q0
            · go_wp2_with fail
              go_ret
              exact ⟨by rw [HE.out,hlb]; rfl,HW.out⟩
            · have q1 : ¬ pos<0:=by omega
              go_wp2_with fail
              go_ret
              exact ⟨by rw [HE.out,hlb]; rfl,HW.out⟩
        · have L7:=Lib.hid (L6.out (S1.out (by omega)) (S2.out (by omega)) (S3.out (by omega)))
          clear L2 L3 L4 L6 S1 S2 S3 eA
          by_cases hk:k=2
          · subst hk
            have hlb:lb=false:=by rw [L7.out,if_pos rfl]; simp
            clear L7
            go_wp2_with fail
            all_goals (go_ret; exact ⟨by rw [HE.out,hlb]; rfl,HW.out⟩)
          · have t2:(k==2)=false:=by simpa using hk
            have hlb:lb=true:=by rw [L7.out,if_neg hk]; simp
            clear L7
            by_cases hmd:md<0∨511<md
            · have HX:Hid (E=12):=Lib.hid (by rw [HE.out,hlb,if_neg (by simp),if_pos hmd])
              clear HE
              rcases hmd with hmd | hmd
              · go_wp2_with fail
                go_ret
                exact ⟨by rw [HX.out]; rfl,HW.out⟩
              · have hm0 : ¬ md<0:=by omega
                go_wp2_with fail
                go_ret
                exact ⟨by rw [HX.out]; rfl,HW.out⟩
            · have HX:Hid (E=if tb=false then 13 else 0):=Lib.hid (by rw [HE.out,hlb,if_neg (by simp),if_neg hmd])
              have hm0 : ¬ md<0:=by omega
              have hm1 : ¬ 511<md:=by omega
              clear HE hmd
              go_wp2_with fail
              refine (HT.out _).mono ?_
              rintro e w4 ⟨rfl,hU4⟩
              have HG:=Lib.hid (HW.out.then hU4)
              clear hU4 dA
              cases tb with
              | false =>
                go_wp2
                go_ret
                exact ⟨by rw [HX.out]; rfl,HG.out⟩
              | true =>
                go_wp2
                go_ret
                exact ⟨by rw [HX.out]; rfl,HG.out⟩
 · have hnb:nb=false:=by
    rw [HB.out]
    cases okb with
    | false=>rfl
    | true =>
      by_cases h2:a=za p
      · by_cases h4:(kk:Int)=k
        · exact absurd ⟨rfl,by rw [HQ.out]; exact h2,h4⟩ hn
        · simp [h4]
      · simp [h2]
   have hn':okb=false ∨ ¬ (zd a).toList=p.toList∨((kk:Int) != k)=true:=by
    cases okb with
    | false=>exact .inl rfl
    | true =>
      by_cases h2:(zd a).toList=p.toList
      · exact .inr (.inr (by simpa using fun h4=>hn ⟨rfl,h2,h4⟩))
      · exact .inr (.inl h2)
   clear hn
   rcases hn' with rfl | hn' | hn'
   all_goals go_wp2_with fail
   all_goals (try (exfalso; simp_all; done))
   all_goals (go_ret; exact ⟨by rw [HE.out,hnb]; rfl,HU.out⟩)
end Go.Proofs.YtfkcdnaghndgfaaGreatDoor
