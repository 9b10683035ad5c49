/- Package zip: Live: its walk. -/
import Derived.Test.YtfkenhihcmmgkaaGreatDoorQAV
set_option linter.unusedVariables false
set_option linter.unusedSimpArgs false
set_option linter.unusedSectionVars false
set_option maxRecDepth 100000
set_option maxHeartbeats 12800000
namespace Go.Proofs.YtfkenhihcmmgkaaGreatDoor
open Go.RowKit
theorem VL (s:ByteArray) (l:List RecD) (v:Value) (w:World) (hs:s.size≤1000000) (h:RecsAt w v l) (hl : ∀ r∈l,r.Fits) (hn:l.length≤100000) :
 Calls Tryz.prog 7 #[.string s,v] w fun e w'=>(∃ u,e = .returned (.tuple #[u,.int .i64 ((qd s l).2:Nat)])∧Row w' 65 2 u (qd s l).1.length (spC (qd s l).1))∧Upd [] w w':=by
 obtain ⟨i0,hi,hz0,hz1,hz2⟩:=info_parts zdT;have HSZ:=Hi (fun z (hz:Upd [] w z)=>zcs l v z (zhR h hz) hl hn);have hd:=Qv l (fun r hr=>(hl r hr).p);have HLV:Hid (qd s l=vZ s ((s.size:Int)-(qt l:Nat)-22) (l.drop 0) []):=Hi (by rw [List.drop_zero]; rfl);generalize qd s l=LP at *;obtain ⟨a,cap,rfl,h⟩:=h;have H:=Hi h;have HL:=Hi hl;clear h hl;obtain ⟨n,hnn⟩ : ∃ n,l.length=n:=⟨_,rfl⟩;rw [hnn] at hn hd HSZ ⊢;have HN:=Hi hnn;clear hnn;obtain ⟨E,hE⟩ : ∃ E,(s.size:Int)-(qt l:Nat)-22=E:=⟨_,rfl⟩;have hw1:IntKind.i64.wrap ((s.size:Int)-(qt l:Nat))=(s.size:Int)-(qt l:Nat):=IntWalk.i64_in _ (by omega);have hw2:IntKind.i64.wrap ((s.size:Int)-(qt l:Nat)-22)=E:=by rw [← hE]; exact IntWalk.i64_in _ (by omega)
 rw [hE] at HLV;clear hE;go_enter Tryz.func7,Tryz.ntmps7;go_wp2_with fail
 refine (HSZ.out _ (Upd.refl _ _)).mono ?_;rintro e w2 ⟨rfl,hu2⟩;have HU2:=Hi hu2;clear hu2 HSZ;generalize qt l=dl at *;go_wp2;go_loopg [4,22] n (fun gg v4 s22 wr => ∃ (i:Nat) (out:List (Int×Int)),i≤n∧gg=n-i∧s22 = .int .i64 (i:Nat)∧out.length≤i∧Hid (LP=vZ s E (l.drop i) out)∧Hid (Row wr 65 2 v4 out.length (spC out))∧Hid (∀ b,v4.ownBlock=some b→w.heap.size≤b)∧Hid (Upd [] w wr))
 case atStart=>exact ⟨0,[],Nat.zero_le _,rfl,rfl,Nat.zero_le _,HLV,Hi (Row.nil _ _ _),Hi (by simp [Value.ownBlock]),HU2⟩
 case round =>
  obtain ⟨i,out,hin,rfl,rfl,ho,HE,HR,HO,HU⟩:=hrel;obtain ⟨va,vc,hvf⟩:=HR.out.form;subst hvf;by_cases hc:i<n
  · have hcz:(i:Int)<(n:Int):=(by omega);have hil:i<l.length:=(by rw [HN.out]; exact hc);obtain ⟨b1,o1,rfl,g1⟩:=H.out i hil;obtain ⟨r,hr⟩ : ∃ r,r=l[i]:=⟨_,rfl⟩;rw [← hr] at g1;have hf:r.Fits:=HL.out r (by rw [hr]; exact List.getElem_mem hil);have HDT0:=fun z=>zhh s r z hs hf;have HBD:=Hi (fun h=>zbE s r hs h);have HST:Hid (LP=if (xp s r).2.2≠0 then ([],(xp s r).2.2)
     else if E<r.pos+(xp s r).2.1∨out.any (yR (r.pos,r.pos+(xp s r).2.1))=true then ([],2)
     else vZ s E (l.drop (i+1)) (out++[(r.pos,r.pos+(xp s r).2.1)])):=Hi (by rw [HE.out,List.drop_eq_getElem_cons hil,← hr]; rfl)
    have HCA:=Hi (fun f x h=>HU.out.keep (g1 f x h));clear g1 hf hr HE;unfold zd2 at HDT0;generalize xp s r=X at *;obtain ⟨dx,nx,wx⟩:=X;obtain ⟨p,m,sum,l2,wh,k,md,t,pos⟩:=r;unfold RecD.v at HDT0;unfold RecD.cells at HCA;dsimp only at HDT0 HCA HBD HST;have HDT:=Hi HDT0;clear HDT0;have hw3:IntKind.i64.wrap ((i:Int)+1)=(i:Int)+1:=IntWalk.i64_in _ (by omega);have c0:=HCA.out 0 (.string p) rfl;have c1:=HCA.out 1 (.int .i64 m) rfl;have c2:=HCA.out 2 (.int .u32 (sum:Nat)) rfl;have c3:=HCA.out 3 (.int .i64 l2) rfl;have c4:=HCA.out 4 (.int .i64 wh) rfl;have c5:=HCA.out 5 (.int .i64 k) rfl;have c6:=HCA.out 6 (.int .i64 md) rfl;have c7:=HCA.out 7 (.int .u32 (t:Nat)) rfl;have c8:=HCA.out 8 (.int .i64 pos) rfl;simp only [Nat.add_zero] at c0;have HB:=Hi (Blk.new wr [.string p,.int .i64 m,.int .u32 (sum:Nat),.int .i64 l2,.int .i64 wh,.int .i64 k,.int .i64 md,.int .u32 (t:Nat),.int .i64 pos] 26);have HU1:=Hi (HU.out.alloc (.cells #[.string p,.int .i64 m,.int .u32 (sum:Nat),.int .i64 l2,.int .i64 wh,.int .i64 k,.int .i64 md,.int .u32 (t:Nat),.int .i64 pos] 26));have HR1:=Hi (HR.out.alloc (.cells #[.string p,.int .i64 m,.int .u32 (sum:Nat),.int .i64 l2,.int .i64 wh,.int .i64 k,.int .i64 md,.int .u32 (t:Nat),.int .i64 pos] 26));have HW1:=Hi (show w.heap.size≤wr.heap.size from HU.out.size);(go_upto_region 5 with fail);change Code.wp _ _ _ _ (wr.alloc (.cells #[.string p,.int .i64 m,.int .u32 (sum:Nat),.int .i64 l2,.int .i64 wh,.int .i64 k,.int .i64 md,.int .u32 (t:Nat),.int .i64 pos] 26));generalize wr.alloc (.cells #[.string p,.int .i64 m,.int .u32 (sum:Nat),.int .i64 l2,.int .i64 wh,.int .i64 k,.int .i64 md,.int .u32 (t:Nat),.int .i64 pos] 26)=w3 at *;generalize wr.heap.size=q at *;clear c0 c1 c2 c3 c4 c5 c6 c7 c8 HCA HU HR;have kA:=HB.out.all;have k8:=HB.out.cell 8 rfl;(go_wp2_with fail);refine (HDT.out _).mono ?_;rintro e w4 ⟨rfl,hu4⟩;have HB4:=Hi (HB.out.upd hu4 (by simp));have HU4:=Hi (HU1.out.then hu4);have HR4:=Hi (HR1.out.upd hu4 (by simp));clear kA k8 hu4 HB HU1 HR1 HDT;by_cases h1:wx=0;rotate_left
    · have e1:(((wx:Nat):Int) != 0)=true:=(by rw [bne_iff_ne]; omega);have HV:=Hi (HST.out.trans (if_pos h1));clear h1;go_wp2;go_returns;exact ⟨⟨_,by rw [HV.out]; rfl,by rw [HV.out]; exact Row.nil _ _ _⟩,HU4.out⟩
    have HS1:=Hi (HST.out.trans (if_neg (by simp [h1])));obtain ⟨hp1,hp2,hp3⟩:=HBD.out h1;subst h1;clear HBD HST;obtain ⟨y,hy⟩ : ∃ y,pos+nx=y:=⟨_,rfl⟩;have hw4:IntKind.i64.wrap (pos+nx)=y:=(by rw [← hy]; exact IntWalk.i64_in _ (by omega));rw [hy] at HS1;have hyb:0≤y∧y≤6000000000:=(by omega);clear hy hp1 hp2 hp3;have k8:=HB4.out.cell 8 rfl;have HX:=Hi (Blk.new w4 [.int .i64 pos,.int .i64 y] 65);have HU5:=Hi (HU4.out.alloc (.cells #[.int .i64 pos,.int .i64 y] 65));have HR5:=Hi (HR4.out.alloc (.cells #[.int .i64 pos,.int .i64 y] 65));(go_upto_region 10 with fail);change Code.wp _ _ _ _ (w4.alloc (.cells #[.int .i64 pos,.int .i64 y] 65));generalize w4.alloc (.cells #[.int .i64 pos,.int .i64 y] 65)=w5 at *;generalize w4.heap.size=c at *;clear k8 hw4 HB4 HU4 HR4;have c0:=HX.out.cell 0 rfl;have c1:=HX.out.cell 1 rfl;by_cases h2:E<y
    · have HV:=Hi (HS1.out.trans (if_pos (.inl h2)));go_wp2;go_returns;exact ⟨⟨_,by rw [HV.out]; rfl,by rw [HV.out]; exact Row.nil _ _ _⟩,HU5.out⟩
    have HCT:=Hi (Xj out (.slice va out.length vc) c (pos,y) w5 (Row.spAt HR5.out) (by omega) HX.out);have hq2 : ∀ B,out.any (yR (pos,y))=B→(E<y∨out.any (yR (pos,y))=true↔B=true):=fun B h=>(by rw [h]; simp [h2]);obtain ⟨B,hB⟩ : ∃ B,out.any (yR (pos,y))=B:=⟨_,rfl⟩;have HQ:=Hi (hq2 B hB);rw [hB] at HCT;clear hq2 hB;cases B with
    | true =>
      have HV:=Hi (HS1.out.trans (if_pos (HQ.out.2 rfl)));(go_wp2_with fail);refine HCT.out.mono ?_;rintro e w6 ⟨rfl,hu6⟩;have HU6:=Hi (HU5.out.then hu6);clear c0 c1 hu6;go_wp2;go_returns;exact ⟨⟨_,by rw [HV.out]; rfl,by rw [HV.out]; exact Row.nil _ _ _⟩,HU6.out⟩
    | false =>
      have HV:=Hi (HS1.out.trans (if_neg (fun h=>by have:=HQ.out.1 h; cases this)));clear HS1 HQ;(go_wp2_with fail);refine HCT.out.mono ?_;rintro e w6 ⟨rfl,hu6⟩;have HX6:=Hi (HX.out.upd hu6 (by simp));have HR6:=Hi (HR5.out.upd hu6 (by simp));have HU6:=Hi (HU5.out.then hu6);have HO6:=HO;clear c0 c1 hu6 HX HR5 HU5 HCT h2;have c0:=HX6.out.cell 0 rfl;have c1:=HX6.out.cell 1 rfl;generalize hol:out.length=ol at *;(go_wp2_with (at_builtin; refine zH _ rfl _ _ 28 rfl 65 i0 _ 2 16 Tryz.underlying28 hi hz0 hz1 hz2 rfl (by omega) (.slice va ol vc) ol _ rfl (HR6.out.alloc _) ⟨w6.heap.size,0,none⟩ 1 1 [.int .i64 pos,.int .i64 y] rfl rfl (World.news_of_block (cs := #[.int .i64 pos,.int .i64 y]) (t:=65) (fr:=(0,0)) (heap_alloc_new _ _)) (by simp [Value.oneCell']) (by unfold maxLen; omega) (by omega) ?_));rintro v9 w9 hR9 hU9 hT9;obtain ⟨va9,vc9,rfl⟩:=hR9.form;have HF:Hid (Row w9 65 2 (.slice va9 (ol+1) vc9) (out++[(pos,y)]).length (spC (out++[(pos,y)]))∧(∀ b,(Value.slice va9 (ol+1) vc9).ownBlock=some b→w.heap.size≤b)∧Upd [] w w9):=Hi ⟨by
       rw [List.length_append,zam,hol]; exact hR9,fun b hb=>by
       have:=HU6.out.size;rcases hT9 with e | ⟨g,e1,e2⟩
       · exact HO6.out b (by rw [← e]; exact hb)
       · rw [hb] at e1; simp at e1 e2; omega,(HU6.out.then ((Upd.refl _ _).alloc _)).trans hU9 (fun k hk => .inr (HO6.out k (by simpa using hk)))⟩
      have HOL:=Hi hol;clear hR9 hU9 hT9 HR6 HU6 HO HO6 c0 c1 hol;go_wp2;go_roundg (n-(i+1));all_goals first
       | omega
       | exact ⟨i+1,out++[(pos,y)],by omega,rfl,by first | rfl | go_num,by simp; have:=HOL.out; omega,HV,Hi HF.out.1,Hi HF.out.2.1,Hi HF.out.2.2⟩
  · have hcz : ¬ (i:Int)<(n:Int):=(by omega);obtain rfl:i=n:=(by omega);have HV:Hid (LP=(out,0)):=Hi (by rw [HE.out,List.drop_of_length_le (by rw [HN.out]; omega)]; rfl);go_wp2;go_returns;exact ⟨⟨_,by rw [HV.out]; rfl,by rw [HV.out]; exact HR.out⟩,HU.out⟩
theorem KW (s:ByteArray) (a:Int) (w:World) (hs:s.size≤1000000):Calls Tryz.prog 63 #[.string s,.int .i64 a] w fun e w'=>e = .returned (VN (zn s a))∧Upd [] w w':=by
 by_cases ha:a<0∨(s.size:Int)<a∨(s.size:Int)-a<30
 · have HV:Hid (zn s a=(qJ,0,false,3)):=Hi (by
    unfold zn;by_cases h:a<0∨(s.size:Int)<a
    · rw [if_pos h]
    · rw [if_neg h];exact if_pos (.inl (by rw [ByteArray.size_extract]; omega)))
   rcases (by omega:a<0∨(¬ a<0∧(s.size:Int)<a)∨(0≤a∧a≤(s.size:Int) ∧ ¬ a<0∧(s.size:Int)-a<30)) with h1 | ⟨h0,h1⟩ | ⟨h2,h3,h0,h1⟩;all_goals
    clear ha;go_enter Tryz.func63,Tryz.ntmps63;go_wp2;(try simp only [Exit.inBlock,Exit.then]); refine bodyPost_ret (zZ rfl _ _ w.heap.size _ _ _ _ _ _ _ _ _ rfl ((Blk.new w [.string .empty,.int .i64 0,.int .u32 0,.int .i64 0,.int .i64 0,.int .i64 0,.int .i64 0,.int .u32 0,.int .i64 0] 26).alloc _)) rfl ⟨?_,((Upd.refl [] w).alloc _).alloc _⟩
    rw [HV.out]; rfl
 obtain ⟨i,rfl⟩ : ∃ i:Nat,a=i:=⟨a.toNat,by omega⟩;have hi0:(0:Int)≤(i:Int):=by omega
 have hi1:(i:Int)≤(s.size:Int):=by omega
 have hz : ¬ (s.size:Int)-(i:Int)<30:=by omega
 obtain ⟨x,hx⟩ : ∃ x,s.extract i s.size=x:=⟨_,rfl⟩;have hxs:x.size=s.size-i:=by rw [← hx,ByteArray.size_extract]; omega
 have hxm:x.size≤1000000:=by omega
 have h30:30≤x.size:=by omega
 have HV0:Hid (zn s i=YA x i):=Hi (by unfold zn; rw [if_neg (by omega),← hx]; rfl);have HXD:=Hi hx;clear ha hx hxs;obtain ⟨be,gbe⟩ : ∃ n,gN x 0 4=n:=⟨_,rfl⟩;obtain ⟨lo,glo,blo,Alo⟩:=zbh x 26 2 (by omega) hxm (by omega);obtain ⟨mo,gmo,bmo,Amo⟩:=zbh x 28 2 (by omega) hxm (by omega);obtain ⟨fl,gfl,bfl,Afl⟩:=zbh x 6 2 (by omega) hxm (by omega);obtain ⟨me,gme,bme,Ame⟩:=zbh x 8 2 (by omega) hxm (by omega);obtain ⟨ti,gti,bti,Ati⟩:=zbh x 10 4 (by omega) hxm (by omega);obtain ⟨su,gsu,bsu,Asu⟩:=zbh x 14 4 (by omega) hxm (by omega);obtain ⟨la,gla,bla,Ala⟩:=zbh x 18 4 (by omega) hxm (by omega);obtain ⟨wh,gwh,bwh,Awh⟩:=zbh x 22 4 (by omega) hxm (by omega);have HVX:Hid (YA x i=if x.size<30+lo+mo then (qJ,0,false,3)
  else if Jy ⟨be,fl,me,ti,su,la,wh,((zf x).drop 30).take lo⟩=false then (qJ,0,false,2)
  else if (zV (((zf x).drop 30).take lo)).2.2=false then (qJ,0,false,5)
  else if xN ((zV (((zf x).drop 30).take lo)).2.1:Nat) ti=false then (qJ,0,false,13)
  else (⟨zg (zV (((zf x).drop 30).take lo)).1,me,su,la,wh,((zV (((zf x).drop 30).take lo)).2.1:Nat),0,ti,i⟩,30+lo+mo,decide (fl=2056),0)):=Hi (by
  have hl:ja x=30+lo+mo:=by unfold ja; rw [glo,gmo]
  unfold YA;by_cases hh:x.size<30+lo+mo
  · rw [if_pos hh,if_pos (.inr (by rw [hl]; exact hh))]
  · rw [if_neg hh,if_neg (by rw [hl]; omega),WU x h30 (by rw [hl]; omega),gbe,gfl,gme,gti,gsu,gla,gwh,glo,hl];rfl)
 have HM:=Hi (zg4 x (by omega) [80,75,3,4] 67324752 rfl (by decide));rw [gbe] at HM;have hnm:zf (x.extract 30 (30+lo))=((zf x).drop 30).take lo:=by rw [zW,Nat.add_sub_cancel_left]
 have HPT:=Hi (fun w=>VQ (x.extract 30 (30+lo)) w (by rw [ByteArray.size_extract]; omega));rw [hnm] at HPT;have HPS:=Hi (fun h=>JQ (l:=((zf x).drop 30).take lo) h);generalize ((zf x).drop 30).take lo=nm at *;generalize zV nm=PP at *;obtain ⟨pa,kk,okb⟩:=PP;unfold ZJ at HPT;dsimp only at HPT HPS HVX;simp only [Nat.reducePow] at blo bmo bfl bme bti bsu bla bwh;have E1:Hid ((((fl:Int) != 2048)=decide (fl≠2048)∧((fl:Int) != 2056)=decide (fl≠2056))∧(((me:Int) != 0)=decide (me≠0)∧((me:Int) != 8)=decide (me≠8))∧((fl:Int)==2056)=decide (fl=2056)∧(((su:Int) != 0)=decide (su≠0)∧((la:Int) != 0)=decide (la≠0)∧((wh:Int) != 0)=decide (wh≠0))):=Hi (by
  refine ⟨⟨?_,?_⟩,⟨?_,?_⟩,?_,?_,?_,?_⟩;all_goals (rw [Bool.eq_iff_iff]; simp<;>omega))
 have HV:=Hi (HV0.out.trans HVX.out);clear HV0 HVX hnm gbe glo gmo gfl gme gti gsu gla gwh;go_enter Tryz.func63,Tryz.ntmps63;go_wp2_with fail
 rw [HXD.out];have S:=Hi (Rd3.new w);refine (Alo.out _).mono ?_;rintro e w1 ⟨rfl,hu⟩;have S:=Hi (S.out.upd hu);clear hu HXD hi0 hi1 hz;go_wp2_with fail
 refine (Amo.out _).mono ?_;rintro e w1 ⟨rfl,hu⟩;have S:=Hi (S.out.upd hu);clear hu;generalize w.heap.size=r0 at *;by_cases hlen:x.size<30+lo+mo
 · have HV:=Hi (HV.out.trans (if_pos hlen));have cA:=S.out.2.1.all;have dA:=S.out.2.2.1.all;have fA:=S.out.2.1.frz;go_wp2_with fail
   (try simp only [Exit.inBlock,Exit.then]); refine bodyPost_ret (zZ rfl _ _ r0 _ _ _ _ _ _ _ _ _ rfl (Blk.set9 S.out.2.1 _ _ _ _ _ _ _ _ _)) rfl ⟨?_,Upd.set9 S.out.2.2.2 (.inr S.out.1) _ _ _ _ _ _ _ _ _⟩
   rw [HV.out]; rfl
 have HV:=Hi (HV.out.trans (if_neg hlen));have hl1:30+lo+mo≤x.size:=by omega
 clear hlen;go_wp2_with fail
 refine (Afl.out _).mono ?_;rintro e w1 ⟨rfl,hu⟩;have S:=Hi (S.out.upd hu);clear hu;go_wp2_with fail
 refine (Ame.out _).mono ?_;rintro e w1 ⟨rfl,hu⟩;have S:=Hi (S.out.upd hu);clear hu;by_cases hg:be=67324752∧(fl=2048∨fl=2056)∧(me=0∨me=8);rotate_left
 · have HV:=Hi (HV.out.trans (if_pos (by unfold Jy; simp; omega)));obtain ⟨⟨t1,t2⟩,⟨t3,t4⟩,_⟩:=E1.out;have tm:=HM.out;clear E1 HM Ati Asu Ala Awh HPT HPS;rcases (by omega:be≠67324752∨(be=67324752∧fl≠2048∧fl≠2056)∨(be=67324752∧fl=2048∧me≠0∧me≠8)∨(be=67324752∧fl=2056∧me≠0∧me≠8)) with h | ⟨h,h1,h2⟩ | ⟨h,h1,h2,h3⟩ | ⟨h,h1,h2,h3⟩;all_goals
    simp only [h,decide_true,decide_false] at tm;(try simp only [h1,h2,decide_true,decide_false,ne_eq,not_true,not_false_eq_true,reduceCtorEq] at t1 t2);(try simp only [h2,h3,decide_true,decide_false,ne_eq,not_true,not_false_eq_true] at t3 t4);clear hg;have cA:=S.out.2.1.all;have dA:=S.out.2.2.1.all;have fA:=S.out.2.1.frz;(go_wp2_with fail);(try simp only [Exit.inBlock,Exit.then]); refine bodyPost_ret (zZ rfl _ _ r0 _ _ _ _ _ _ _ _ _ rfl (Blk.set9 S.out.2.1 _ _ _ _ _ _ _ _ _)) rfl ⟨?_,Upd.set9 S.out.2.2.2 (.inr S.out.1) _ _ _ _ _ _ _ _ _⟩
    rw [HV.out]; rfl
 obtain ⟨hg1,hg2,hg3⟩:=hg;have hm2:(me=0∨me=8):=hg3;have hf2:(fl=2048∨fl=2056):=hg2;have HM2:=Hi (And.intro hf2 hm2);clear hm2 hf2;go_upto_region 9 with fail
 go_cut [71] (fun s71 wx=>s71 = .bool false∧Hid (Rd3 w r0 wx))
 case first =>
  obtain ⟨⟨t1,t2⟩,⟨t3,t4⟩,_⟩:=E1.out;have tm:=HM.out;simp only [hg1,decide_true] at tm;rcases hg2 with h1 | h1<;>rcases hg3 with h2 | h2;all_goals
   subst h1 h2;go_wp2;go_meet;exact ⟨rfl,S⟩
 case rest =>
 obtain ⟨rfl,S⟩:=hcut;clear hg2 hg3;go_wp2_with fail
 refine (Ati.out _).mono ?_;rintro e w1 ⟨rfl,hu⟩;have S:=Hi (S.out.upd hu);clear hu;go_wp2_with fail
 refine (Asu.out _).mono ?_;rintro e w1 ⟨rfl,hu⟩;have S:=Hi (S.out.upd hu);clear hu;go_wp2_with fail
 refine (Ala.out _).mono ?_;rintro e w1 ⟨rfl,hu⟩;have S:=Hi (S.out.upd hu);clear hu;go_wp2_with fail
 refine (Awh.out _).mono ?_;rintro e w1 ⟨rfl,hu⟩;have S:=Hi (S.out.upd hu);clear hu;have hq0:=S.out.2.2.1.lt;have HQ:=Hi (Blk.new w1 [.string { data := #[] },.int .i64 (me:Nat),.int .u32 (su:Nat),.int .i64 (la:Nat),.int .i64 (wh:Nat),.int .i64 0,.int .i64 0,.int .u32 (ti:Nat),.int .i64 (i:Nat)] 26);have S:=Hi (S.out.upd ((Upd.refl [] w1).alloc (.cells #[.string { data := #[] },.int .i64 (me:Nat),.int .u32 (su:Nat),.int .i64 (la:Nat),.int .i64 (wh:Nat),.int .i64 0,.int .i64 0,.int .u32 (ti:Nat),.int .i64 (i:Nat)] 26)));go_upto_region 12 with fail
 change Code.wp _ _ _ _ (w1.alloc (.cells #[.string { data := #[] },.int .i64 (me:Nat),.int .u32 (su:Nat),.int .i64 (la:Nat),.int .i64 (wh:Nat),.int .i64 0,.int .i64 0,.int .u32 (ti:Nat),.int .i64 (i:Nat)] 26));generalize w1.alloc (.cells #[.string { data := #[] },.int .i64 (me:Nat),.int .u32 (su:Nat),.int .i64 (la:Nat),.int .i64 (wh:Nat),.int .i64 0,.int .i64 0,.int .u32 (ti:Nat),.int .i64 (i:Nat)] 26)=w2 at *;generalize w1.heap.size=q0 at *;obtain ⟨B,hB⟩ : ∃ B,decide (fl=2056 ∧ ¬ (su=0∧la=0∧wh=0))=B:=⟨_,rfl⟩;have HBB:=Hi hB;clear hB;go_cut [102] (fun s102 wx=>s102 = .bool B∧Hid (Rd3 w r0 wx)∧Hid (Blk wx q0 [.string { data := #[] },.int .i64 (me:Nat),.int .u32 (su:Nat),.int .i64 (la:Nat),.int .i64 (wh:Nat),.int .i64 0,.int .i64 0,.int .u32 (ti:Nat),.int .i64 (i:Nat)] 26))
 case first =>
  obtain ⟨_,_,t5,t6,t7,t8⟩:=E1.out;have gA:=HQ.out.all;rcases (by omega:fl≠2056∨(fl=2056∧su≠0)∨(fl=2056∧su=0∧la≠0)∨(fl=2056∧su=0∧la=0∧wh≠0)∨(fl=2056∧su=0∧la=0∧wh=0)) with h | ⟨h,h1⟩ | ⟨h,h1,h2⟩ | ⟨h,h1,h2,h3⟩ | ⟨h,h1,h2,h3⟩;all_goals
   simp only [h,decide_true,decide_false] at t5;try simp only [h1,ne_eq,not_true,not_false_eq_true,decide_true,decide_false] at t6
   try simp only [h2,ne_eq,not_true,not_false_eq_true,decide_true,decide_false] at t7
   try simp only [h3,ne_eq,not_true,not_false_eq_true,decide_true,decide_false] at t8
   have HB2:=HBB.out;simp [*] at HB2;subst HB2;go_wp2;go_meet;exact ⟨rfl,S,HQ⟩
 case rest =>
 obtain ⟨rfl,S,HQ⟩:=hcut;cases B with
 | true =>
   have HV:=Hi (HV.out.trans (if_pos (by have:=of_decide_eq_true HBB.out; unfold Jy; simp; omega)));have cA:=S.out.2.1.all;have dA:=S.out.2.2.1.all;have fA:=S.out.2.1.frz;go_wp2_with fail
   (try simp only [Exit.inBlock,Exit.then]); refine bodyPost_ret (zZ rfl _ _ r0 _ _ _ _ _ _ _ _ _ rfl (Blk.set9 S.out.2.1 _ _ _ _ _ _ _ _ _)) rfl ⟨?_,Upd.set9 S.out.2.2.2 (.inr S.out.1) _ _ _ _ _ _ _ _ _⟩
   rw [HV.out]; rfl
 | false =>
 have HV:=Hi (HV.out.trans (if_neg (by have:=of_decide_eq_false HBB.out; have:=HM2.out; unfold Jy; simp; omega)));go_wp2_with fail
 refine (HPT.out _).mono ?_;rintro e w3 ⟨rfl,hu⟩;have S:=Hi (S.out.upd hu);have HQ:=Hi (HQ.out.upd hu (by simp));clear hu HBB HPT;cases okb with
 | false =>
   have HV:=Hi (HV.out.trans (if_pos rfl));have cA:=S.out.2.1.all;have dA:=S.out.2.2.1.all;have fA:=S.out.2.1.frz;go_wp2_with fail
   (try simp only [Exit.inBlock,Exit.then]); refine bodyPost_ret (zZ rfl _ _ r0 _ _ _ _ _ _ _ _ _ rfl (Blk.set9 S.out.2.1 _ _ _ _ _ _ _ _ _)) rfl ⟨?_,Upd.set9 S.out.2.2.2 (.inr S.out.1) _ _ _ _ _ _ _ _ _⟩
   rw [HV.out]; rfl
 | true =>
 have HV:=Hi (HV.out.trans (if_neg (by simp)));have hps:=HPS.out rfl;have HTM:=Hi (fun w=>VM (⟨zg pa,me,su,la,wh,(kk:Nat),0,ti,(i:Nat)⟩:RecD) w ⟨by dsimp only; rw [zk]; omega,by dsimp only; omega,by dsimp only; omega⟩);unfold RecD.v at HTM;dsimp only at HTM;generalize xN (kk:Int) ti=tb at *;have gA:=HQ.out.all;have kA:=HQ.out.frz;go_wp2_with fail
 refine (HTM.out _).mono ?_;rintro e w4 ⟨rfl,hu⟩;have S:=Hi (((S.out.far (o:=0) hq0 (.string (zg pa))).far (o:=5) hq0 (.int .i64 (kk:Nat))).upd hu);have HQ:=Hi (((HQ.out.set 0 (.string (zg pa))).set 5 (.int .i64 (kk:Nat))).upd hu (by simp));clear gA kA hu HTM HPS;cases tb with
 | false =>
   have HV:=Hi (HV.out.trans (if_pos rfl));have cA:=S.out.2.1.all;have dA:=S.out.2.2.1.all;have fA:=S.out.2.1.frz;go_wp2_with fail
   (try simp only [Exit.inBlock,Exit.then]); refine bodyPost_ret (zZ rfl _ _ r0 _ _ _ _ _ _ _ _ _ rfl (Blk.set9 S.out.2.1 _ _ _ _ _ _ _ _ _)) rfl ⟨?_,Upd.set9 S.out.2.2.2 (.inr S.out.1) _ _ _ _ _ _ _ _ _⟩
   rw [HV.out]; rfl
 | true =>
 have HV:=Hi (HV.out.trans (if_neg (by simp)));have t5:=E1.out.2.2.1;have gA:=HQ.out.all;have cA:=S.out.2.1.all;have dA:=S.out.2.2.1.all;have fA:=S.out.2.1.frz;go_wp2_with fail
 (try simp only [Exit.inBlock,Exit.then]); refine bodyPost_ret (zZ rfl _ _ r0 _ _ _ _ _ _ _ _ _ rfl (Blk.set9 S.out.2.1 _ _ _ _ _ _ _ _ _)) rfl ⟨?_,Upd.set9 S.out.2.2.2 (.inr S.out.1) _ _ _ _ _ _ _ _ _⟩
 rw [HV.out]; simp [VN,RecD.v]
theorem ZU {P:Program} {fn:Func} {p u:Tmp} {ty:TypeId} (h:fn.results = #[.cell p ty,.tmp u]) (tmps:Array Value) (w:World) (g:Nat) (t:TypeId) (cs:Array Value) (fr:Nat×Nat) (d:TypeDesc) (v:Value)
 (hp:tmps.getD p undef = .pointer (some ⟨g,0,none⟩)) (hv:tmps.getD u undef=v) (hg:w.heap[g]? =some (.cells cs t fr))
 (hu:P.underlying ty=some d) (hd:(match d with | .struct _ | .array _ _=>true | _=>false)=true) (hi:(P.info? ty).map (·.size)=some cs.size) :
 (results fn tmps).run P w = .ok (.tuple #[.agg cs,v]) w:=by
 rw [results_cell_tmp h,hp,hv];simp [asAddr,run_loadVar_row w g t ty cs fr d hg hu hd hi,Result.andThen]
theorem zjA:(Tryz.prog.info? 296).map (·.size)=some 3:=by kernel_rfl
def lAt:List Nat:=[3,4,5,6,7,8,9,10,11,13,15,17,19,23,27,31,35,43,51,59,67,83,99,115,131,163,195,227,258,259]
def jK:List Nat:=[0,0,0,0,0,0,0,0,1,1,1,1,2,2,2,2,3,3,3,3,4,4,4,4,5,5,5,5,0]
def isL (n i:Nat):Prop:=lAt.getD i 0≤n∧n<lAt.getD (i+1) 0
instance (n i:Nat):Decidable (isL n i):=by unfold isL; infer_instance
def yU (n:Nat):Nat→Nat→Option Nat
 | 0,_=>none
 | m+1,i=>if isL n i then some i else yU n m (i+1)
theorem zfd : ∀ n:Fin 259,3≤n.val→(yU n.val 29 0).isSome=true:=by decide +kernel
def zdz (i n:Nat):Value := .agg #[.int .i64 ((257+i:Nat):Int),.int .i64 (jK.getD i 0:Nat),.int .i64 ((n-lAt.getD i 0:Nat):Int)]
theorem VA (n:Nat) (w:World) (h3:3≤n) (h258:n≤258) :
 Calls Tryz.prog 237 #[.int .i64 (n:Nat)] w fun e w' => ∃ i,yU n 29 0=some i∧e = .returned (.tuple #[zdz i n,.bool true])∧Upd [] w w':=by
 have hall:=zfd ⟨n,by omega⟩ h3;have HF:=Hi hall;clear hall;go_enter Tryz.func237,Tryz.ntmps237;go_wp2;obtain ⟨w2,hw2⟩ : ∃ w2,w2=((w.alloc (Obj.cells #[.int .i64 0,.int .i64 0,.int .i64 0] 296)).alloc (Obj.cells (zl lAt).toArray 3)).alloc (Obj.cells (zl jK).toArray 3):=⟨_,rfl⟩;change Code.wp _ _ _ _ (((w.alloc (Obj.cells #[.int .i64 0,.int .i64 0,.int .i64 0] 296)).alloc (Obj.cells (zl lAt).toArray 3)).alloc (Obj.cells (zl jK).toArray 3));have hU2:Upd [] w w2:=by rw [hw2]; exact (((Upd.refl [] w).alloc _).alloc _).alloc _
 have hS:Blk w2 w.heap.size [.int .i64 0,.int .i64 0,.int .i64 0] 296:=by rw [hw2]; exact ((Blk.new w [.int .i64 0,.int .i64 0,.int .i64 0] 296).alloc _).alloc _
 have hA:Blk w2 (w.heap.size+1) (zl lAt) 3:=by
  have h:=(Blk.new (w.alloc (Obj.cells #[.int .i64 0,.int .i64 0,.int .i64 0] 296)) (zl lAt) 3).alloc (Obj.cells (zl jK).toArray 3);rw [World.size_alloc] at h;rw [hw2]; exact h
 have hB:Blk w2 (w.heap.size+1+1) (zl jK) 3:=by
  have h:=Blk.new ((w.alloc (Obj.cells #[.int .i64 0,.int .i64 0,.int .i64 0] 296)).alloc (Obj.cells (zl lAt).toArray 3)) (zl jK) 3;rw [World.size_alloc,World.size_alloc] at h;rw [hw2]; exact h
 rw [← hw2];clear hw2;go_loopg [6,11] 29 (fun g s6 s11 wr => ∃ i,i≤29∧g=29-i∧s11 = .int .i64 (i:Nat)∧Hid (yU n 29 0=yU n (29-i) i)∧w2=wr)
 case atStart=>exact ⟨0,by omega,rfl,rfl,Hi rfl,rfl⟩
 case round =>
  obtain ⟨i,hi,rfl,rfl,HL,rfl⟩:=hrel;by_cases hc:i<29
  · have hcz:(i:Int)<29:=(by omega);have hst:yU n (29-i) i=if isL n i then some i else yU n (29-(i+1)) (i+1):=by
     rw [show 29-i=(29-(i+1))+1 by omega]; rfl
    have HST:=Hi hst;clear hst;have hget : ∀ (l:List Nat) (j:Nat),j<l.length→l[j]? =some (l.getD j 0):=fun l j h=>(by rw [List.getD,List.getElem?_eq_getElem h]; rfl);have d1:=hA.cell i (zB _ _ _ (hget lAt i (by show i<30; omega)));have d2:=hA.cell (i+1) (zB _ _ _ (hget lAt (i+1) (by show i+1<30; omega)));have d3:=hB.cell i (zB _ _ _ (hget jK i (by show i<29; omega)));have s0:=hS.cell 0 rfl;have fA:=hS.frz;have sA:=hS.all;clear hget;have HIL:=Hi (show isL n i↔lAt.getD i 0≤n∧n<lAt.getD (i+1) 0 from Iff.rfl);have HLV:=Hi (show zdz i n = .agg #[.int .i64 ((257+i:Nat):Int),.int .i64 (jK.getD i 0:Nat),.int .i64 ((n-lAt.getD i 0:Nat):Int)] from rfl);generalize lAt.getD i 0=p at *;generalize lAt.getD (i+1) 0=q at *;generalize jK.getD i 0=bb at *;have hi30:(i:Int)<30:=(by omega);have hi31:(i:Int)+1<30:=(by omega);have hi01:(0:Int)≤(i:Int)+1:=(by omega);by_cases hp:p≤n
    · have t1:decide ((p:Int)≤(n:Int))=true:=decide_eq_true (by omega);have t1':decide (p≤n)=true:=decide_eq_true hp;have hpz:(p:Int)≤(n:Int):=(by omega);by_cases hq:n<q
      · have t2:decide ((n:Int)<(q:Int))=true:=decide_eq_true (by omega);have t2':decide (n<q)=true:=decide_eq_true hq;have hqz:(n:Int)<(q:Int):=(by omega);have e1:IntKind.i64.wrap ((n:Int)-(p:Int))=((n-p:Nat):Int):=(by rw [IntWalk.i64_in _ (by omega)]; omega);have e2:IntKind.i64.wrap (257+(i:Int))=((257+i:Nat):Int):=(by rw [IntWalk.i64_in _ (by omega)]; omega);go_wp2
        go_region_law (fail)
        (all_goals go_wp2);all_goals (
         have hB9:=((hS.set 0 (.int .i64 (257+(i:Int)))).set 1 (.int .i64 (bb:Nat))).set 2 (.int .i64 ((n-p:Nat):Int));refine bodyPost_ret (ZU rfl _ _ w.heap.size _ _ _ _ (.bool true) (by simp [Act.put]) (by simp [Act.put]) hB9 Tryz.underlying296 rfl (by rw [zjA]; rfl)) (by simp [Act.put]) ⟨i,?_,?_,?_⟩
         · rw [HL.out,HST.out,if_pos (HIL.out.2 ⟨hp,hq⟩)]
         · rw [HLV.out]; rfl
         · exact (((hU2.setCell (.inr (Nat.le_refl _)) _).setCell (.inr (Nat.le_refl _)) _).setCell (.inr (Nat.le_refl _)) _).drew)
      · have t2:decide ((n:Int)<(q:Int))=false:=decide_eq_false (by omega);have t2':decide (n<q)=false:=decide_eq_false hq;go_wp2;go_roundg (29-(i+1))
        · exact ⟨i+1,by omega,rfl,by first | rfl | go_num,Hi (by rw [HL.out,HST.out,if_neg (fun h=>hq (HIL.out.1 h).2)]),rfl⟩
        · omega
    · have t1:decide ((p:Int)≤(n:Int))=false:=decide_eq_false (by omega);have t1':decide (p≤n)=false:=decide_eq_false hp;go_wp2;go_roundg (29-(i+1))
      · exact ⟨i+1,by omega,rfl,by first | rfl | go_num,Hi (by rw [HL.out,HST.out,if_neg (fun h=>hp (HIL.out.1 h).1)]),rfl⟩
      · omega
  · exfalso;have h1:=HL.out;rw [show 29-i=0 by omega] at h1;have h2:=HF.out;rw [h1] at h2;cases h2
def dAt:List Nat:=[1,2,3,4,5,7,9,13,17,25,33,49,65,97,129,193,257,385,513,769,1025,1537,2049,3073,4097,6145,8193,12289,16385,24577,32769]
def dBt (i:Nat):Nat:=i/2-1
def isD (n i:Nat):Prop:=dAt.getD i 0≤n∧n<dAt.getD (i+1) 0
instance (n i:Nat):Decidable (isD n i):=by unfold isD; infer_instance
def ky (n:Nat):Nat→Nat→Option Nat
 | 0,_=>none
 | m+1,i=>if isD n i then some i else ky n m (i+1)
theorem zcv (n m i:Nat):ky n (m+1) i=if isD n i then some i else ky n m (i+1):=rfl
theorem zaX (n:Nat) : ∀ m i,dAt.getD i 0≤n→n<dAt.getD (i+m) 0 → ∃ r,ky n m i=some r∧i≤r∧r<i+m
 | 0,i,h1,h2=>by rw [Nat.add_zero] at h2; omega
 | m+1,i,h1,h2=>by
   rw [zcv];by_cases h:isD n i
   · exact ⟨i,by rw [if_pos h],by omega,by omega⟩
   · rw [if_neg h];have h3:dAt.getD (i+1) 0≤n:=by
      unfold isD at h;omega
     obtain ⟨r,r1,r2,r3⟩:=zaX n m (i+1) h3 (by rw [show i+1+m=i+(m+1) by omega]; exact h2);exact ⟨r,r1,by omega,by omega⟩
theorem zcu (n:Nat) (h1:1≤n) (h2:n≤32768) : ∃ r,ky n 30 0=some r∧r<30:=by
 obtain ⟨r,r1,_,r3⟩:=zaX n 30 0 h1 (by show n<32769; omega);exact ⟨r,r1,by omega⟩
instance (n i:Nat):Decidable (isL n i):=by unfold isL; infer_instance
theorem zhX : ∀ n:Fin 259,3≤n.val→ye ((257+(yU n.val 29 0).getD 0:Nat):Int)=((jK.getD ((yU n.val 29 0).getD 0) 0:Nat):Int):=by decide +kernel
theorem zf6 : ∀ c:Fin 300,ye (c.val:Nat) = -1∨(257≤c.val∧3≤lAt.getD (c.val-257) 0∧lAt.getD (c.val-257) 0≤258∧yU (lAt.getD (c.val-257) 0) 29 0=some (c.val-257)):=by decide +kernel
theorem zju : ∀ n:Fin 259,3≤n.val→xy ((257+(yU n.val 29 0).getD 0:Nat):Int) ((n.val-lAt.getD ((yU n.val 29 0).getD 0) 0:Nat):Int)=some n.val:=by decide +kernel
theorem zgJ : ∀ c:Fin 300,∀ m:Fin 32,xy (c.val:Nat) (m.val:Nat)=none∨((xy (c.val:Nat) (m.val:Nat)).isSome=true∧(xy (c.val:Nat) (m.val:Nat)).getD 0<259∧3≤(xy (c.val:Nat) (m.val:Nat)).getD 0∧257≤c.val ∧
 yU ((xy (c.val:Nat) (m.val:Nat)).getD 0) 29 0=some (c.val-257)∧(xy (c.val:Nat) (m.val:Nat)).getD 0-lAt.getD (c.val-257) 0=m.val):=by decide +kernel
theorem zif (c:Fin 300) (m:Fin 32):xy (c.val:Nat) (m.val:Nat)=none ∨ ∃ v:Nat,v<259∧xy (c.val:Nat) (m.val:Nat)=some v∧3≤v∧257≤c.val∧yU v 29 0=some (c.val-257)∧v-lAt.getD (c.val-257) 0=m.val:=by
 rcases zgJ c m with h | ⟨h0,h1,h2,h3,h4,h5⟩
 · exact .inl h
 · obtain ⟨v,hv⟩:=Option.isSome_iff_exists.1 h0;rw [hv] at h1 h2 h4 h5;exact .inr ⟨v,h1,hv,h2,h3,h4,h5⟩
theorem YS (c:Nat) (w:World) (hc:c<300):Calls Tryz.prog 186 #[.int .i64 (c:Nat)] w fun e w'=>e = .returned (.int .i64 (ye (c:Nat)))∧Upd [] w w':=by
 have HM:=Hi (zf6 ⟨c,hc⟩);have HB:=Hi (show ye (c:Nat)=ye (c:Nat) from rfl);obtain ⟨r,hr⟩ : ∃ r,r=ye (c:Nat):=⟨_,rfl⟩;have HR:=Hi hr;rw [← hr];clear hr HB;go_enter Tryz.func186,Tryz.ntmps186;go_wp2;go_loopg [3] 256 (fun g s3 wr => ∃ n,3≤n∧n≤259∧g=259-n∧s3 = .int .i64 (n:Nat)∧Hid (∀ j,3≤j→j<n → ∀ i,yU j 29 0=some i→257+i≠c)∧Upd [] w wr)
 case atStart=>exact ⟨3,by omega,by omega,rfl,rfl,Hi (fun j h1 h2=>by omega),.refl _ _⟩
 case round =>
  obtain ⟨n,h3,h259,rfl,rfl,HN,hU⟩:=hrel;by_cases hn:n≤258
  · have hnz:(n:Int)≤258:=(by omega);have HL:=Hi (VA n wr h3 hn);(go_wp2_with fail);refine HL.out.mono ?_;rintro e w2 ⟨i,hi,rfl,hU2⟩;have hbh:=zhX ⟨n,by omega⟩ h3;dsimp only at hbh;rw [hi] at hbh;simp only [Option.getD_some] at hbh;have HBH:=Hi hbh;have HI:=Hi hi;clear hbh hi;unfold zdz;generalize jK.getD i 0=bb at *;generalize n-lAt.getD i 0=mm at *;by_cases hcc:257+i=c
    · have t1:((257:Int)+(i:Int)==(c:Int))=true:=(by simp; omega);go_wp2;go_returns;refine ⟨?_,hU.then (hU2.alloc _)⟩;rw [HR.out,← hcc,HBH.out]; rfl
    · have t1:((257:Int)+(i:Int)==(c:Int))=false:=(by simp; omega);go_wp2;go_roundg (259-(n+1))
      · refine ⟨n+1,by omega,by omega,rfl,by first | rfl | go_num,Hi ?_,hU.then (hU2.alloc _)⟩;intro j h1 h2 i' hj;by_cases hjn:j<n
        · exact HN.out j h1 hjn i' hj
        · have:j=n:=(by omega);subst this;rw [HI.out] at hj;cases hj;exact hcc
      · omega
  · have hnz : ¬ (n:Int)≤258:=(by omega);go_wp2;go_returns;refine ⟨?_,hU⟩;rw [HR.out];rcases HM.out with h | ⟨h1,h2,h3',h4⟩
    · rw [h]; rfl
    · exact absurd (by omega) (HN.out _ h2 (by omega) _ h4)
theorem zaw (c m:Nat) (w:World) (hc:c<300) (hm:m<32):Calls Tryz.prog 187 #[.int .i64 (c:Nat),.int .i64 (m:Nat)] w fun e w'=>e = .returned (jn (xy (c:Nat) (m:Nat)))∧Upd [] w w':=by
 have HM:=Hi (zif ⟨c,hc⟩ ⟨m,hm⟩);obtain ⟨r,hr⟩ : ∃ r,r=xy (c:Nat) (m:Nat):=⟨_,rfl⟩;have HR:=Hi hr;rw [← hr];clear hr;go_enter Tryz.func187,Tryz.ntmps187;go_wp2;go_loopg [6] 256 (fun g s6 wr => ∃ n,3≤n∧n≤259∧g=259-n∧s6 = .int .i64 (n:Nat)∧Hid (∀ j,3≤j→j<n → ∀ i,yU j 29 0=some i → ¬ (257+i=c∧j-lAt.getD i 0=m))∧Upd [] w wr)
 case atStart=>exact ⟨3,by omega,by omega,rfl,rfl,Hi (fun j h1 h2=>by omega),.refl _ _⟩
 case round =>
  obtain ⟨n,h3,h259,rfl,rfl,HN,hU⟩:=hrel;by_cases hn:n≤258
  · have hnz:(n:Int)≤258:=(by omega);have HL:=Hi (VA n wr h3 hn);(go_wp2_with fail);refine HL.out.mono ?_;rintro e w2 ⟨i,hi,rfl,hU2⟩;have hbh:=zju ⟨n,by omega⟩ h3;dsimp only at hbh;rw [hi] at hbh;simp only [Option.getD_some] at hbh;have HBH:=Hi hbh;have HI:=Hi hi;clear hbh hi;unfold zdz;generalize jK.getD i 0=bb at *;obtain ⟨mm,hmm⟩ : ∃ mm,mm=n-lAt.getD i 0:=⟨_,rfl⟩;rw [← hmm] at HBH ⊢;have HMM:=Hi hmm;clear hmm;have next : ¬ (257+i=c∧mm=m)→Hid (∀ j,3≤j→j<n+1 → ∀ i,yU j 29 0=some i → ¬ (257+i=c∧j-lAt.getD i 0=m)):=fun hcc=>Hi (by
     intro j h1 h2 i' hj;by_cases hjn:j<n
     · exact HN.out j h1 hjn i' hj
     · have:j=n:=(by omega);subst this;rw [HI.out] at hj;cases hj;rw [← HMM.out];exact hcc)
    have NEXT:=Hi next;clear next;by_cases hcc:257+i=c
    · have t1:((257:Int)+(i:Int)==(c:Int))=true:=(by simp; omega);by_cases hm2:mm=m
      · have t2:((mm:Int)==(m:Int))=true:=(by simp; omega);have t2':(mm==m)=true:=(by simp [hm2]);go_wp2;go_returns;refine ⟨?_,hU.then (hU2.alloc _)⟩;rw [HR.out,← hcc,← hm2,HBH.out];rfl
      · have t2:((mm:Int)==(m:Int))=false:=(by simp; omega);have t2':(mm==m)=false:=(by simp [hm2]);go_wp2;go_roundg (259-(n+1))
        · exact ⟨n+1,by omega,by omega,rfl,by first | rfl | go_num,NEXT.out (fun h=>hm2 h.2),hU.then (hU2.alloc _)⟩
        · omega
    · have t1:((257:Int)+(i:Int)==(c:Int))=false:=(by simp; omega);go_wp2;go_roundg (259-(n+1))
      · exact ⟨n+1,by omega,by omega,rfl,by first | rfl | go_num,NEXT.out (fun h=>hcc h.1),hU.then (hU2.alloc _)⟩
      · omega
  · have hnz : ¬ (n:Int)≤258:=(by omega);go_wp2;go_returns;refine ⟨?_,hU⟩;rw [HR.out];rcases HM.out with h | ⟨v,hv,h1,h2,h3',h4,h5⟩
    · rw [h]; rfl
    · exact absurd ⟨by omega,h5⟩ (HN.out _ h2 (by omega) _ h4)
def bAt:List Nat:=[1,2,3,4,5,7,9,13,17,25,33,49,65,97,129,193,257,385,513,769,1025,1537,2049,3073,4097,6145,8193,12289,16385,24577,32769]
theorem zfV : ∀ c:Fin 30,yP (c.val:Nat)=max 0 (((c.val/2:Nat):Int)-1):=by decide +kernel
theorem zbr (c:Nat) (h:30≤c):yP (c:Nat) = -1:=by unfold yP zQ; rw [if_pos (.inr (by omega))]
theorem zfD : ∀ c:Fin 30,zQ 2 4 30 (c.val:Nat) ≠ -1∧(2:Int)^(zQ 2 4 30 (c.val:Nat)).toNat=((bAt.getD (c.val+1) 0-bAt.getD c.val 0:Nat):Int)∧vM 1 2 4 30 c.val=bAt.getD c.val 0∧bAt.getD c.val 0≤bAt.getD (c.val+1) 0∧bAt.getD (c.val+1) 0≤32769:=by decide +kernel
theorem Vg (c:Nat) (w:World) (hc:c<300):Calls Tryz.prog 189 #[.int .i64 (c:Nat)] w fun e w'=>e = .returned (.int .i64 (yP (c:Nat)))∧Upd [] w w':=by
 by_cases h:c≤29
 · have hf:=zfV ⟨c,by omega⟩;have HF:=Hi hf;clear hf;have t1:decide ((29:Int)<(c:Int))=false:=decide_eq_false (by omega);have t2:decide (29<c)=false:=decide_eq_false (by omega);have q1:(c:Int).tdiv 2=((c/2:Nat):Int):=(by rw [Int.tdiv_eq_ediv_of_nonneg (by omega)]; omega);have q1':(c:Int)/2=((c/2:Nat):Int):=(by omega);obtain ⟨d,hd⟩ : ∃ d,d=c/2:=⟨_,rfl⟩;rw [← hd] at q1 q1';have HD:=Hi hd;have hd2:d≤14:=(by omega);clear hd;have q2:IntKind.i64.wrap ((d:Int)-1)=(d:Int)-1:=IntWalk.i64_in _ (by omega);go_enter Tryz.func189,Tryz.ntmps189;go_wp2;go_returns;refine ⟨?_,.refl _ _⟩;rw [HF.out,← HD.out];rfl
 · have hf:=Hi (zbr c (by omega));have t1:decide ((29:Int)<(c:Int))=true:=decide_eq_true (by omega);have t2:decide (29<c)=true:=decide_eq_true (by omega);go_enter Tryz.func189,Tryz.ntmps189;go_wp2;go_returns;exact ⟨by rw [hf.out]; rfl,.refl _ _⟩
theorem WG (c m:Nat) (w:World) (hc:c<300) (hm:m<1000000):Calls Tryz.prog 190 #[.int .i64 (c:Nat),.int .i64 (m:Nat)] w fun e w'=>e = .returned (jn (jS 1 2 4 30 (c:Nat) (m:Nat)))∧Upd [] w w':=by
 by_cases h:c≤29
 · obtain ⟨f1,f2,f3,f4,f5⟩:=zfD ⟨c,by omega⟩;dsimp only at f1 f2 f3 f4 f5;have hget : ∀ j,j<31→bAt[j]? =some (bAt.getD j 0):=fun j h=>(by rw [List.getD,List.getElem?_eq_getElem (show j<bAt.length from h)]; rfl);have g1:=hget c (by omega);have g2:=hget (c+1) (by omega);have hn:jS 1 2 4 30 (c:Nat) (m:Nat)=if m<bAt.getD (c+1) 0-bAt.getD c 0 then some (bAt.getD c 0+m) else none:=by
    unfold jS;rw [f2,Int.toNat_natCast,Int.toNat_natCast,f3];by_cases hlt:m<bAt.getD (c+1) 0-bAt.getD c 0
    · rw [if_neg (by omega),if_pos hlt]
    · rw [if_pos (by omega),if_neg hlt]
   have HN:=Hi hn;have G1:=Hi g1;have G2:=Hi g2;clear f1 f2 f3 g1 g2 hn hget;generalize bAt.getD (c+1) 0=q at *;generalize bAt.getD c 0=p at *;have t1:decide ((29:Int)<(c:Int))=false:=decide_eq_false (by omega);have t2:decide (29<c)=false:=decide_eq_false (by omega);have hc31:(c:Int)<31:=(by omega);have hc32:(c:Int)+1<31:=(by omega);have hc0:(0:Int)≤(c:Int)+1:=(by omega);have e1:IntKind.i64.wrap ((q:Int)-(p:Int))=(q:Int)-(p:Int):=IntWalk.i64_in _ (by omega);have e2:IntKind.i64.wrap ((c:Int)+1)=(c:Int)+1:=IntWalk.i64_in _ (by omega);have e3:((c:Int)+1).toNat=c+1:=(by omega);have t4:decide ((c:Int)<0)=false:=decide_eq_false (by omega);have t5:decide ((m:Int)<0)=false:=decide_eq_false (by omega);have t6:(0:Int)≤(c:Int):=(by omega);go_enter Tryz.func190,Tryz.ntmps190;go_upto_region 2 with fail
   have hB:=Blk.new w (zl bAt) 3;have hU:Upd [] w (w.alloc (.cells (zl bAt).toArray 3)):=(Upd.refl [] w).alloc _;change Code.wp _ _ _ _ (w.alloc (.cells (zl bAt).toArray 3));generalize w.alloc (.cells (zl bAt).toArray 3)=w1 at *;have d1:=hB.cell c (zB _ _ _ G1.out);have d2:=hB.cell (c+1) (zB _ _ _ G2.out);clear hB;have HU:=Hi hU;clear hU;generalize w.heap.size=wb at *;by_cases hlt:m<q-p
   · have t3:decide ((q:Int)-(p:Int)≤(m:Int))=false:=decide_eq_false (by omega);go_wp2
     go_quiet (fail)
     go_wp2;go_returns;exact ⟨by rw [HN.out,if_pos hlt]; rfl,HU.out.drewN _⟩
   · have t3:decide ((q:Int)-(p:Int)≤(m:Int))=true:=decide_eq_true (by omega);go_wp2
     go_quiet (fail)
     go_wp2;go_returns;exact ⟨by rw [HN.out,if_neg hlt]; rfl,HU.out.drewN _⟩
 · have hn:jS 1 2 4 30 (c:Nat) (m:Nat)=none:=by
    unfold jS;rw [if_pos (.inl (by have:=zbr c (by omega); unfold yP at this; exact this))]
   have HN:=Hi hn;clear hn;have t1:decide ((29:Int)<(c:Int))=true:=decide_eq_true (by omega);have t2:decide (29<c)=true:=decide_eq_true (by omega);have t4:decide ((c:Int)<0)=false:=decide_eq_false (by omega);go_enter Tryz.func190,Tryz.ntmps190;go_upto_region 2 with fail
   have hU:Upd [] w (w.alloc (.cells (zl bAt).toArray 3)):=(Upd.refl [] w).alloc _;change Code.wp _ _ _ _ (w.alloc (.cells (zl bAt).toArray 3));generalize w.alloc (.cells (zl bAt).toArray 3)=w1 at *;generalize w.heap.size=wb at *;have HU:=Hi hU;clear hU;go_wp2
   go_quiet (fail)
   go_wp2;go_returns;exact ⟨by rw [HN.out]; rfl,HU.out.drewN _⟩
end Go.Proofs.YtfkenhihcmmgkaaGreatDoor
