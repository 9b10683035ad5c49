/- Package swingleref22: Data: its walk. -/
import Derived.Test.YtfkenhihcmmgkaaGreatDoorROf
set_option linter.unusedVariables false
set_option linter.unusedSimpArgs false
set_option linter.unusedSectionVars false
set_option maxRecDepth 100000
set_option maxHeartbeats 12800000
namespace Go.Proofs.YtfkenhihcmmgkaaGreatDoor
open Go.RowKit
theorem zft (d:ByteArray) (h:d.size=0):xI d=0:=by
 have e:zf d=[]:=List.eq_nil_of_length_eq_zero (by rw [zi]; exact h);unfold xI;rw [e];rfl
theorem zeP (s:ByteArray) (r:RecD) (w:World) (hsz:s.size≤1000000) (hr:r.Fits) :
 Calls Tryz.prog 29 #[.string s,r.v] w fun e w'=>e = .returned (zd2 (xp s r))∧Upd [] w w':=by
 have HRT:=Hi (fun z=>Qr r z hr);have HRD0:=fun z=>KW s r.pos z hsz;have HRP:=Hi (QF (s:=s) (a:=r.pos));have HBD:=Hi (fun h=>Zc (r:=r) h);have HTA0:=fun z=>zeR s (r.pos+(zn s r.pos).2.1+r.l) z hsz;have HOF0:=fun z h=>zh3 (s.extract (r.pos+(zn s r.pos).2.1).toNat (r.pos+(zn s r.pos).2.1+r.l).toNat) r.wh z h;rw [zdR] at HOF0;have HTL:=Hi (YI s (zn s r.pos).1 r (r.pos+(zn s r.pos).2.1) (zn s r.pos).2.2.1);have HDD:Hid (xp s r=if yf r≠0 then (⟨#[]⟩,0,1)
  else if (zn s r.pos).2.2.2≠0 then (⟨#[]⟩,0,(zn s r.pos).2.2.2)
  else if Je (zn s r.pos).1 r=false then (⟨#[]⟩,0,2)
  else if (qI s (zn s r.pos).1 r (r.pos+(zn s r.pos).2.1) (zn s r.pos).2.2.1).2≠0 then (⟨#[]⟩,0,(qI s (zn s r.pos).1 r (r.pos+(zn s r.pos).2.1) (zn s r.pos).2.2.1).2)
  else if (s.size:Int)-(r.pos+(zn s r.pos).2.1)<r.l then (⟨#[]⟩,0,3)
  else if (xR (s.extract (r.pos+(zn s r.pos).2.1).toNat (r.pos+(zn s r.pos).2.1+r.l).toNat) r).2≠0 then (⟨#[]⟩,0,(xR (s.extract (r.pos+(zn s r.pos).2.1).toNat (r.pos+(zn s r.pos).2.1+r.l).toNat) r).2)
  else ((xR (s.extract (r.pos+(zn s r.pos).2.1).toNat (r.pos+(zn s r.pos).2.1+r.l).toNat) r).1,(zn s r.pos).2.1+r.l+(qI s (zn s r.pos).1 r (r.pos+(zn s r.pos).2.1) (zn s r.pos).2.2.1).1,0)):=Hi rfl
 have HAE:Hid (Je (zn s r.pos).1 r=decide ((zn s r.pos).1.p=r.p∧(zn s r.pos).1.m=r.m∧(zn s r.pos).1.k=r.k∧(zn s r.pos).1.t=r.t∧(zn s r.pos).1.pos=r.pos)):=Hi rfl;have HTE:Hid (qI s (zn s r.pos).1 r (r.pos+(zn s r.pos).2.1) (zn s r.pos).2.2.1=if (zn s r.pos).2.2.1=true then (if (xm s (r.pos+(zn s r.pos).2.1+r.l)).2.2.2.2=false then (0,3)
  else if (xm s (r.pos+(zn s r.pos).2.1+r.l)).1≠r.sum∨((xm s (r.pos+(zn s r.pos).2.1+r.l)).2.1:Int)≠r.l∨((xm s (r.pos+(zn s r.pos).2.1+r.l)).2.2.1:Int)≠r.wh then (0,2) else ((xm s (r.pos+(zn s r.pos).2.1+r.l)).2.2.2.1,0))
  else if (zn s r.pos).1.sum≠r.sum∨(zn s r.pos).1.l≠r.l∨(zn s r.pos).1.wh≠r.wh then (0,2) else (0,0)):=Hi rfl
 have HWE:Hid (xR (s.extract (r.pos+(zn s r.pos).2.1).toNat (r.pos+(zn s r.pos).2.1+r.l).toNat) r=if r.m=8 then (if (ofT (ofP (s.extract (r.pos+(zn s r.pos).2.1).toNat (r.pos+(zn s r.pos).2.1+r.l).toNat) r.wh)).2.2≠0 then (⟨#[]⟩,(ofT (ofP (s.extract (r.pos+(zn s r.pos).2.1).toNat (r.pos+(zn s r.pos).2.1+r.l).toNat) r.wh)).2.2) else if (ofT (ofP (s.extract (r.pos+(zn s r.pos).2.1).toNat (r.pos+(zn s r.pos).2.1+r.l).toNat) r.wh)).2.1≠(s.extract (r.pos+(zn s r.pos).2.1).toNat (r.pos+(zn s r.pos).2.1+r.l).toNat).size then (⟨#[]⟩,2) else Wx (ofT (ofP (s.extract (r.pos+(zn s r.pos).2.1).toNat (r.pos+(zn s r.pos).2.1+r.l).toNat) r.wh)).1 r) else Wx (s.extract (r.pos+(zn s r.pos).2.1).toNat (r.pos+(zn s r.pos).2.1+r.l).toNat) r):=Hi rfl;have HFF:Hid (∀ y:ByteArray,Wx y r=if 65000<r.wh then (⟨#[]⟩,4) else if (y.size:Int)≠r.wh then (⟨#[]⟩,2) else if r.k=1∧xI y≠r.sum then (⟨#[]⟩,11) else (y,0)):=Hi (fun _=>rfl);generalize xp s r=DP at *;generalize yf r=E at *;generalize zn s r.pos=Q at *;obtain ⟨h,n,lt,e0⟩:=Q;dsimp only at HRD0 HTA0 HOF0 HDD HRP HAE HTE HWE HTL;generalize Je h r=A at *;generalize qI s h r (r.pos+(n:Nat)) lt=TP at *;obtain ⟨tl,tw⟩:=TP;generalize hDg:s.extract (r.pos+(n:Nat)).toNat (r.pos+(n:Nat)+r.l).toNat=D at *;generalize xR D r=WP at *;obtain ⟨wd,ww⟩:=WP;generalize ofT (ofP D r.wh)=OT at *;obtain ⟨x,u,c0⟩:=OT;generalize xm s (r.pos+(n:Nat)+r.l)=TT at *;obtain ⟨x1,x2,x3,x4,x5⟩:=TT;unfold zdy at HTA0;obtain ⟨hp,hm,hs,hl,hw,hk,hd,ht,ho⟩:=h;obtain ⟨p,m,sum,l,wh,k,md,t,pos⟩:=r;unfold RecD.v at HRT;unfold VN RecD.v at HRD0;dsimp only at HRT HRD0 HTA0 HOF0 HRP HBD HDD hDg HAE HTE HWE HFF HTL;have HRD:=Hi HRD0;have HTA:=Hi HTA0;have HOF:=Hi HOF0;have HDE:=Hi hDg;clear HRD0 HTA0 HOF0 hDg hr;unfold RecD.v;dsimp only;have HB:=Hi (Blk.new w [.string p,.int .i64 m,.int .u32 (sum:Nat),.int .i64 l,.int .i64 wh,.int .i64 k,.int .i64 md,.int .u32 (t:Nat),.int .i64 pos] 26);have HU:=Hi ((Upd.refl [] w).alloc (.cells #[.string p,.int .i64 m,.int .u32 (sum:Nat),.int .i64 l,.int .i64 wh,.int .i64 k,.int .i64 md,.int .u32 (t:Nat),.int .i64 pos] 26));go_enter Tryz.func29,Tryz.ntmps29;go_upto_region 1 with fail
 change Code.wp _ _ _ _ (w.alloc (.cells #[.string p,.int .i64 m,.int .u32 (sum:Nat),.int .i64 l,.int .i64 wh,.int .i64 k,.int .i64 md,.int .u32 (t:Nat),.int .i64 pos] 26));generalize w.alloc (.cells #[.string p,.int .i64 m,.int .u32 (sum:Nat),.int .i64 l,.int .i64 wh,.int .i64 k,.int .i64 md,.int .u32 (t:Nat),.int .i64 pos] 26)=w1 at *;generalize hge:w.heap.size=g at *;have HWG:=Hi (show w.heap.size≤g by omega);clear hge;have kA:=HB.out.all;have k3:=HB.out.cell 3 rfl;have k4:=HB.out.cell 4 rfl;have k8:=HB.out.cell 8 rfl;go_wp2_with fail
 refine (HRT.out _).mono ?_;rintro e w2 ⟨rfl,hu2⟩;have HB2:=Hi (HB.out.upd hu2 (by simp));have HU2:=Hi (HU.out.then hu2);clear kA k3 k4 k8 hu2 HB HU HRT;by_cases h0:E=0;rotate_left
 · have e1:(((E:Nat):Int) != 0)=true:=(by rw [bne_iff_ne]; omega);have HV:=Hi (HDD.out.trans (if_pos h0));clear h0;go_wp2;go_returns;exact ⟨by rw [HV.out]; rfl,HU2.out⟩
 have HD1:=Hi (HDD.out.trans (if_neg (by simp [h0])));obtain ⟨hb1,hb2,hb3,hb4⟩:=HBD.out h0;have HBK:=Hi hb4;subst h0;clear HDD HBD hb4;have k8:=HB2.out.cell 8 rfl;go_wp2_with fail
 refine (HRD.out _).mono ?_;rintro e w3 ⟨rfl,hu3⟩;have HB3:=Hi ((HB2.out.upd hu3 (by simp)).alloc (.cells #[.string hp,.int .i64 hm,.int .u32 (hs:Nat),.int .i64 hl,.int .i64 hw,.int .i64 hk,.int .i64 hd,.int .u32 (ht:Nat),.int .i64 ho] 26));have HU3:=Hi ((HU2.out.then hu3).alloc (.cells #[.string hp,.int .i64 hm,.int .u32 (hs:Nat),.int .i64 hl,.int .i64 hw,.int .i64 hk,.int .i64 hd,.int .u32 (ht:Nat),.int .i64 ho] 26));have HC3:=Hi (Blk.new w3 [.string hp,.int .i64 hm,.int .u32 (hs:Nat),.int .i64 hl,.int .i64 hw,.int .i64 hk,.int .i64 hd,.int .u32 (ht:Nat),.int .i64 ho] 26);have HGC:Hid (g≠w3.heap.size∧w.heap.size≤w3.heap.size):=Hi ⟨by have:=(HB2.out.upd hu3 (by simp)).lt; omega,by have:=(HU2.out.then hu3).size; omega⟩;clear k8 hu3 HB2 HU2 HRD;go_upto_region 4 with fail
 change Code.wp _ _ _ _ (w3.alloc (.cells #[.string hp,.int .i64 hm,.int .u32 (hs:Nat),.int .i64 hl,.int .i64 hw,.int .i64 hk,.int .i64 hd,.int .u32 (ht:Nat),.int .i64 ho] 26));generalize w3.alloc (.cells #[.string hp,.int .i64 hm,.int .u32 (hs:Nat),.int .i64 hl,.int .i64 hw,.int .i64 hk,.int .i64 hd,.int .u32 (ht:Nat),.int .i64 ho] 26)=w4 at *;generalize w3.heap.size=c at *;by_cases h1:e0=0;rotate_left
 · have e1:(((e0:Nat):Int) != 0)=true:=(by rw [bne_iff_ne]; omega);have HV:=Hi (HD1.out.trans (if_pos h1));clear h1;go_wp2;go_returns;exact ⟨by rw [HV.out]; rfl,HU3.out⟩
 have HD2:=Hi (HD1.out.trans (if_neg (by simp [h1])));obtain ⟨hp1,hp2,hp3,hp4⟩:=HRP.out h1;subst h1;clear HD1 HRP;obtain ⟨f,hf⟩ : ∃ f,pos+(n:Int)=f:=⟨_,rfl⟩;have hw1:IntKind.i64.wrap (pos+(n:Int))=f:=by rw [← hf]; exact IntWalk.i64_in _ (by omega)
 rw [hf] at HTA HD2 HDE;have hf0:0≤f∧f≤(s.size:Int):=by omega
 have HPO:=Hi hp1;clear hf hp1 hp4;have kA:=HB3.out.all;have k3:=HB3.out.cell 3 rfl;have k4:=HB3.out.cell 4 rfl;have k8:=HB3.out.cell 8 rfl;have aA:=HC3.out.all;by_cases i1:hp=p;rotate_left
 · have e1:(hp.toList==p.toList)=false:=Yl i1;have e2:(hp.toList != p.toList)=true:=(by rw [bne,e1]; rfl);have HV:=Hi (HD2.out.trans (if_pos (by rw [HAE.out]; simp [i1])));clear i1;go_wp2;go_returns;exact ⟨by rw [HV.out]; rfl,HU3.out⟩
 by_cases i2:hk=k;rotate_left
 · have e1:(hk != k)=true:=(by rw [bne_iff_ne]; exact i2);have HV:=Hi (HD2.out.trans (if_pos (by rw [HAE.out]; simp [i2])));subst i1;clear i2;go_wp2;go_returns;exact ⟨by rw [HV.out]; rfl,HU3.out⟩
 by_cases i3:hm=m;rotate_left
 · have e1:(hm != m)=true:=(by rw [bne_iff_ne]; exact i3);have HV:=Hi (HD2.out.trans (if_pos (by rw [HAE.out]; simp [i3])));subst i1 i2;clear i3;go_wp2;go_returns;exact ⟨by rw [HV.out]; rfl,HU3.out⟩
 by_cases i4:ht=t;rotate_left
 · have e1:(((ht:Nat):Int) != ((t:Nat):Int))=true:=(by rw [bne_iff_ne]; omega);have HV:=Hi (HD2.out.trans (if_pos (by rw [HAE.out]; simp [i4])));subst i1 i2 i3;clear i4;go_wp2;go_returns;exact ⟨by rw [HV.out]; rfl,HU3.out⟩
 have HD3:=Hi (HD2.out.trans (if_neg (by rw [HAE.out]; simp [i1,i2,i3,i4,HPO.out])));subst i1 i2 i3 i4;clear HD2 HAE HPO;have hw5:IntKind.i64.wrap (f+l)=f+l:=IntWalk.i64_in _ (by omega);go_upto_if 67 with fail
 clear kA k3 k4 k8 aA hw1;go_cut [12] (fun s12 wx => ∃ (z1 z4:Nat) (z2 z3:Int),s12 = .int .i64 (z4:Nat)∧Blk wx c [.string hp,.int .i64 hm,.int .u32 (z1:Nat),.int .i64 z2,.int .i64 z3,.int .i64 hk,.int .i64 hd,.int .u32 (ht:Nat),.int .i64 ho] 26∧Blk wx g [.string hp,.int .i64 hm,.int .u32 (sum:Nat),.int .i64 l,.int .i64 wh,.int .i64 hk,.int .i64 md,.int .u32 (ht:Nat),.int .i64 pos] 26∧Upd [] w wx∧Hid ((tl,tw)=if z1≠sum∨z2≠l∨z3≠wh then (0,2) else (z4,0)))
 case first =>
  cases lt with
  | false =>
    have HF:=Hi (HTE.out.trans (if_neg (by simp)));go_wp2;go_meet;exact ⟨hs,0,hl,hw,rfl,HC3.out,HB3.out,HU3.out,HF⟩
  | true =>
    have HF:=Hi (HTE.out.trans (if_pos rfl));have k3:=HB3.out.cell 3 rfl;(go_wp2_with fail);refine (HTA.out _).mono ?_;rintro e w5 ⟨rfl,hu5⟩;have HB4:=Hi (HB3.out.upd hu5 (by simp));have HC4:=Hi (HC3.out.upd hu5 (by simp));have HU4:=Hi (HU3.out.then hu5);clear k3 hu5 HB3 HC3 HU3 HTA HTE;cases x5 with
    | false =>
      have hT:=HF.out.trans (if_pos rfl);obtain ⟨rfl,rfl⟩:tl=0∧tw=3:=(by simpa using hT);have HV:=Hi (HD3.out.trans (if_pos (by decide)));clear hT HF;go_wp2;go_returns;exact ⟨by rw [HV.out]; rfl,HU4.out⟩
    | true =>
      have HF2:=Hi (HF.out.trans (if_neg (by simp)));have HC5:=Hi (((HC4.out.set 2 (.int .u32 (x1:Nat))).set 3 (.int .i64 (x2:Nat))).set 4 (.int .i64 (x3:Nat)));have HB5:=Hi (((HB4.out.setFar (a:=⟨c,2,none⟩) (.int .u32 (x1:Nat)) HGC.out.1).setFar (a:=⟨c,3,none⟩) (.int .i64 (x2:Nat)) HGC.out.1).setFar (a:=⟨c,4,none⟩) (.int .i64 (x3:Nat)) HGC.out.1);have HU5:=Hi (((HU4.out.setCell (p:=⟨c,2,none⟩) (.inr HGC.out.2) (.int .u32 (x1:Nat))).setCell (p:=⟨c,3,none⟩) (.inr HGC.out.2) (.int .i64 (x2:Nat))).setCell (p:=⟨c,4,none⟩) (.inr HGC.out.2) (.int .i64 (x3:Nat)));have aA:=HC4.out.all;have fA:=HC4.out.frz;go_wp2;go_meet;exact ⟨x1,x4,x2,x3,rfl,HC5.out,HB5.out,HU5.out,HF2⟩
 case rest =>
 obtain ⟨z1,z4,z2,z3,rfl,hC,hB,hU,HTZ⟩:=hcut;have HBA:=Hi hB;have HUA:=Hi hU;have aA:=hC.all;have kA:=hB.all;have k3:=hB.cell 3 rfl;have k4:=hB.cell 4 rfl;clear hC hB hU HB3 HU3 HC3 HTE HTA;by_cases j1:z1=sum;rotate_left
 · have e1:(((z1:Nat):Int) != ((sum:Nat):Int))=true:=(by rw [bne_iff_ne]; omega);obtain ⟨rfl,rfl⟩:tl=0∧tw=2:=(by simpa using HTZ.out.trans (if_pos (.inl j1)));have HV:=Hi (HD3.out.trans (if_pos (by decide)));clear j1;go_wp2;go_returns;exact ⟨by rw [HV.out]; rfl,HUA.out⟩
 have e1:(((z1:Nat):Int) != ((sum:Nat):Int))=false:=by rw [bne_eq_false_iff_eq]; omega
 by_cases j2:z2=l;rotate_left
 · have e2:(z2 != l)=true:=(by rw [bne_iff_ne]; exact j2);obtain ⟨rfl,rfl⟩:tl=0∧tw=2:=(by simpa using HTZ.out.trans (if_pos (.inr (.inl j2))));have HV:=Hi (HD3.out.trans (if_pos (by decide)));clear j1 j2;go_wp2;go_returns;exact ⟨by rw [HV.out]; rfl,HUA.out⟩
 have e2:(z2 != l)=false:=by rw [bne_eq_false_iff_eq]; exact j2
 by_cases j3:z3=wh;rotate_left
 · have e3:(z3 != wh)=true:=(by rw [bne_iff_ne]; exact j3);obtain ⟨rfl,rfl⟩:tl=0∧tw=2:=(by simpa using HTZ.out.trans (if_pos (.inr (.inr j3))));have HV:=Hi (HD3.out.trans (if_pos (by decide)));clear j1 j2 j3;go_wp2;go_returns;exact ⟨by rw [HV.out]; rfl,HUA.out⟩
 have e3:(z3 != wh)=false:=by rw [bne_eq_false_iff_eq]; exact j3
 obtain ⟨rfl,rfl⟩:tl=z4∧tw=0:=by simpa using HTZ.out.trans (if_neg (by simp [j1,j2,j3]))
 have HD4:=Hi (HD3.out.trans (if_neg (by simp)));clear j1 j2 j3 HD3 HTZ;have hw2:IntKind.i64.wrap ((s.size:Int)-f)=(s.size:Int)-f:=IntWalk.i64_in _ (by omega);by_cases h3:(s.size:Int)-f<l
 · have HV:=Hi (HD4.out.trans (if_pos h3));go_wp2;go_returns;exact ⟨by rw [HV.out]; rfl,HUA.out⟩
 have HD5:=Hi (HD4.out.trans (if_neg h3));have hds:D.size≤1000000:=by rw [← HDE.out,ByteArray.size_extract]; omega
 have hfl:f+l≤(s.size:Int):=by omega
 have hff:f≤f+l:=by omega
 have hf1:0≤f+l:=by omega
 clear HD4;go_upto_region 22 with fail
 clear aA kA k4 e1 e2 e3 h3 hw2;generalize wc=wA at *;go_cut [18] (fun s18 wx=>s18 = .string D∧wx=wA)
 case first =>
  have HSL:=HDE.out;go_wp2;go_meet;exact ⟨by first | rfl | (rw [HSL]),rfl⟩
 case rest =>
 obtain ⟨rfl,rfl⟩:=hcut;clear k3;have kA:=HBA.out.all;have k4:=HBA.out.cell 4 rfl;go_upto_if 124 with fail
 go_cut [18] (fun s18 wx => ∃ y:ByteArray,s18 = .string y∧Blk wx g [.string hp,.int .i64 hm,.int .u32 (sum:Nat),.int .i64 l,.int .i64 wh,.int .i64 hk,.int .i64 md,.int .u32 (ht:Nat),.int .i64 pos] 26∧Upd [] w wx∧Hid ((wd,ww)=Wx y ⟨hp,hm,sum,l,wh,hk,md,ht,pos⟩))
 case first =>
  by_cases hm8:hm=8
  · subst hm8;have HW2:=Hi (HWE.out.trans (if_pos rfl));have HOF2:=Hi (fun z=>HOF.out z (by omega));clear HWE HOF;(go_wp2_with fail);refine (HOF2.out _).mono ?_;rintro e w7 ⟨rfl,hu7⟩;have HB7:=Hi (HBA.out.upd hu7 (by simp));have HU7:=Hi (HUA.out.then hu7);clear kA k4 hu7 HBA HUA HOF2;by_cases hc:c0=0;rotate_left
    · have ec:(((c0:Nat):Int) != 0)=true:=(by rw [bne_iff_ne]; omega);obtain ⟨rfl,rfl⟩:wd=⟨#[]⟩∧ww=c0:=(by simpa using HW2.out.trans (if_pos hc));have HV:=Hi (HD5.out.trans (if_pos hc));clear hc;go_wp2;go_returns;exact ⟨by rw [HV.out]; rfl,HU7.out⟩
    subst hc;have HW3:=Hi (HW2.out.trans (if_neg (by simp)));by_cases hu:u=D.size
    · have eu:(((u:Nat):Int) != (D.size:Int))=false:=(by rw [bne_eq_false_iff_eq]; omega);have HF:=Hi (HW3.out.trans (if_neg (by simp [hu])));clear hu;go_wp2;go_meet;exact ⟨x,rfl,HB7.out,HU7.out,HF⟩
    · have eu:(((u:Nat):Int) != (D.size:Int))=true:=(by rw [bne_iff_ne]; omega);obtain ⟨rfl,rfl⟩:wd=⟨#[]⟩∧ww=2:=(by simpa using HW3.out.trans (if_pos hu));have HV:=Hi (HD5.out.trans (if_pos (by decide)));clear hu;go_wp2;go_returns;exact ⟨by rw [HV.out]; rfl,HU7.out⟩
  · have HF:=Hi (HWE.out.trans (if_neg hm8));have em:(hm==8)=false:=(by rw [beq_eq_false_iff_ne]; exact hm8);clear HWE HOF hm8;go_wp2;go_meet;exact ⟨D,rfl,HBA.out,HUA.out,HF⟩
 case rest =>
 obtain ⟨y,rfl,hB,hU,HFY⟩:=hcut;have HBD:=Hi hB;have HUD:=Hi hU;clear kA k4 HBA HUA hB hU HWE HOF;have HF0:=Hi (HFY.out.trans (HFF.out y));have k4:=HBD.out.cell 4 rfl;by_cases g1:(65000:Int)<wh
 · obtain ⟨rfl,rfl⟩:wd=⟨#[]⟩∧ww=4:=(by simpa using HF0.out.trans (if_pos g1));have HV:=Hi (HD5.out.trans (if_pos (by decide)));go_wp2;go_returns;exact ⟨by rw [HV.out]; rfl,HUD.out⟩
 have HF1:=Hi (HF0.out.trans (if_neg g1));by_cases g2:(y.size:Int)=wh;rotate_left
 · have e2:((y.size:Int) != wh)=true:=(by rw [bne_iff_ne]; exact g2);obtain ⟨rfl,rfl⟩:wd=⟨#[]⟩∧ww=2:=(by simpa using HF1.out.trans (if_pos g2));have HV:=Hi (HD5.out.trans (if_pos (by decide)));clear g2;go_wp2;go_returns;exact ⟨by rw [HV.out]; rfl,HUD.out⟩
 have e2:((y.size:Int) != wh)=false:=by rw [bne_eq_false_iff_eq]; exact g2
 have HF2:Hid ((wd,ww)=if xI y≠sum then (⟨#[]⟩,11) else (y,0)):=Hi (by
  rw [HF1.out,if_neg (by simp [g2])];rcases HBK.out with h | ⟨h,h5,_,h6,_⟩
  · simp [h]
  · rw [if_neg (by omega),if_neg (by rw [zft y (by omega),h5]; simp)])
 have HCR:=Hi (fun z=>zh1 y z (by omega));clear HF0 HF1 HFF HFY;go_upto_region 34 with fail
 clear g1 g2 e2 k4;refine wp_region_held_drew (S:=fun w'=>Blk w' g [.string hp,.int .i64 hm,.int .u32 (sum:Nat),.int .i64 l,.int .i64 wh,.int .i64 hk,.int .i64 md,.int .u32 (ht:Nat),.int .i64 pos] 26∧Upd [] w w') (by kernel_rfl) ⟨HBD.out.drew,HUD.out.drew⟩ (fun hHeld=>hdN ?_);refine hdT 0 (some 149) ?_; refine hdT 2 (some 151) ?_;refine hdT 3 (some 152) ?_ (hy:=by intro w0 hSw; have q0:=hSw.1.cell 2 rfl; go_simp; try with_reducible rfl);refine hdO 1 (fun K hK=>?_);go_simp;refine (HCR.out _).mono ?_;rintro e z9 ⟨rfl,hz9⟩;subst hz9;go_wp2;refine hK.out _ _ hHeld (fun hHeld=>hdN ?_);clear hK K;refine hdT 4 (some 153) ?_;refine wpAnyH_done (by kernel_rfl) ?_ 0;have HBE:=Hi hHeld.1;have HUE:=Hi hHeld.2;clear hHeld HBD HUD HCR;by_cases g3:xI y=sum;rotate_left
 · have e3:(((xI y:Nat):Int) != ((sum:Nat):Int))=true:=(by rw [bne_iff_ne]; omega);obtain ⟨rfl,rfl⟩:wd=⟨#[]⟩∧ww=11:=(by simpa using HF2.out.trans (if_pos g3));have HV:=Hi (HD5.out.trans (if_pos (by decide)));clear g3;go_wp2;go_returns;exact ⟨by rw [HV.out]; rfl,HUE.out⟩
 have e3:(((xI y:Nat):Int) != ((sum:Nat):Int))=false:=by rw [bne_eq_false_iff_eq]; omega
 obtain ⟨rfl,rfl⟩:wd=y∧ww=0:=by simpa using HF2.out.trans (if_neg (by simp [g3]))
 have HV:=Hi (HD5.out.trans (if_neg (by simp)));have HWN:=Hi (show IntKind.i64.wrap ((n:Int)+l)=(n:Int)+l from IntWalk.i64_in _ (by omega));have HWT:=Hi (show IntKind.i64.wrap ((n:Int)+l+(tl:Nat))=(n:Int)+l+(tl:Nat) from IntWalk.i64_in _ (by have:=HTL.out; omega));clear HD5 HF2;go_upto_region 36 with fail
 clear g3 e3;refine wp_region_held_drew (S:=fun w'=>Blk w' g [.string hp,.int .i64 hm,.int .u32 (sum:Nat),.int .i64 l,.int .i64 wh,.int .i64 hk,.int .i64 md,.int .u32 (ht:Nat),.int .i64 pos] 26∧Upd [] w w') (by kernel_rfl) ⟨HBE.out.drew,HUE.out.drew⟩ (fun hHeld=>hdN ?_);refine hdT 0 (some 154) ?_; refine hdT 1 (some 155) ?_; refine hdT 2 (some 156) ?_;refine hdT 3 (some 157) ?_ (hy:=by intro w0 hSw; have q0:=hSw.1.cell 3 rfl; go_simp; try with_reducible rfl);refine hdT 4 (some 158) ?_ (hy:=by intro w0 hSw; go_simp; all_goals rw [HWN.out]) (v := .int .i64 ((n:Int)+l)); refine hdT 5 (some 159) ?_;refine hdT 6 (some 160) ?_ (hy:=by intro w0 hSw; go_simp; all_goals rw [HWT.out]) (v := .int .i64 ((n:Int)+l+(tl:Nat)));refine hdT 7 (some 4) ?_; refine hdT 8 (some 5) ?_; refine hdT 9 (some 6) ?_;refine wpAnyH_done (by kernel_rfl) ?_ 0;go_wp2;go_returns;exact ⟨by rw [HV.out]; rfl,hHeld.2⟩
theorem zbP (s:ByteArray) (l:List RecD) (v:Value) (w:World) (hs:s.size≤1000000) (h:RecsAt w v l) (hl : ∀ r∈l,r.Fits) (hn:l.length≤100000) :
 Calls Tryz.prog 8 #[.string s,v] w fun e w'=>(∃ u,e = .returned (.tuple #[u,.int .i64 ((qd s l).2:Nat)])∧Row w' 65 2 u (qd s l).1.length (spC (qd s l).1))∧Upd [] w w':=by
 obtain ⟨i0,hi,hz0,hz1,hz2⟩:=info_parts zdT;have hd:=Qv l (fun r hr=>(hl r hr).p);have HLV:Hid (qd s l=vZ s ((s.size:Int)-22-(qt l:Nat)) (l.drop 0) []):=Hi (by rw [List.drop_zero,show (s.size:Int)-22-(qt l:Nat)=(s.size:Int)-(qt l:Nat)-22 by omega]; rfl);generalize qd s l=LP at *;obtain ⟨a,cap,rfl,h⟩:=h;have H:=Hi h;have HL:=Hi hl;have HLE:=Hi (fun i=>Qv (l.take i) (fun r hr=>(HL.out r (List.mem_of_mem_take hr)).p));clear h hl;obtain ⟨n,hnn⟩ : ∃ n,l.length=n:=⟨_,rfl⟩;rw [hnn] at hn hd ⊢;have HN:=Hi hnn;clear hnn;have hw0:IntKind.i64.wrap ((s.size:Int)-22)=(s.size:Int)-22:=IntWalk.i64_in _ (by omega);go_enter Tryz.func8,Tryz.ntmps8;go_wp2;go_loopg [7,22] n (fun gg s7 s22 wr => ∃ i,i≤n∧gg=n-i∧s22 = .int .i64 (i:Nat)∧s7 = .int .i64 ((s.size:Int)-22-(qt (l.take i):Nat))∧qt (l.take i)≤i*1047∧Hid (Upd [] w wr))
 case atStart=>exact ⟨0,Nat.zero_le _,rfl,rfl,by simp [qt],Nat.zero_le _,Hi (Upd.refl _ _)⟩
 case round =>
  obtain ⟨i,hin,rfl,rfl,rfl,hdi,HU⟩:=hrel;by_cases hc:i<n
  · have hcz:(i:Int)<(n:Int):=(by omega);have hil:i<l.length:=(by rw [HN.out]; exact hc);obtain ⟨b1,o1,rfl,g1⟩:=H.out i hil;obtain ⟨r,hr⟩ : ∃ r,r=l[i]:=⟨_,rfl⟩;rw [← hr] at g1;have hf:r.Fits:=HL.out r (by rw [hr]; exact List.getElem_mem hil);have HNM:=Hi (fun z=>vW r z hf);have HD:Hid (qt (l.take (i+1))=qt (l.take i)+(46+(zw r.k r.p).length)):=Hi (by rw [List.take_succ_eq_append_getElem hil,VR,← hr]);have hnl:(zw r.k r.p).length≤1001:=(by have:=xn r.k r.p; have:=hf.p; omega);have HCA:=Hi (fun f x h=>HU.out.keep (g1 f x h));clear g1 hf hr;generalize qt (l.take i)=di at *;obtain ⟨p,m,sum,l2,wh,k,md,t,pos⟩:=r;unfold RecD.v at HNM;unfold RecD.cells at HCA;dsimp only at HNM HCA HD hnl;have hsn:(zg (zw k p)).size=(zw k p).length:=zk _;generalize zg (zw k p)=NS at *;generalize (zw k p).length=nl at *;have hw1:IntKind.i64.wrap ((i:Int)+1)=(i:Int)+1:=IntWalk.i64_in _ (by omega);have hw2:IntKind.i64.wrap (46+(NS.size:Int))=46+(NS.size:Int):=IntWalk.i64_in _ (by omega);have hw3:IntKind.i64.wrap ((s.size:Int)-22-(di:Nat)-(46+(NS.size:Int)))=(s.size:Int)-22-(di:Nat)-(46+(NS.size:Int)):=IntWalk.i64_in _ (by omega);have c0:=HCA.out 0 (.string p) rfl;have c1:=HCA.out 1 (.int .i64 m) rfl;have c2:=HCA.out 2 (.int .u32 (sum:Nat)) rfl;have c3:=HCA.out 3 (.int .i64 l2) rfl;have c4:=HCA.out 4 (.int .i64 wh) rfl;have c5:=HCA.out 5 (.int .i64 k) rfl;have c6:=HCA.out 6 (.int .i64 md) rfl;have c7:=HCA.out 7 (.int .u32 (t:Nat)) rfl;have c8:=HCA.out 8 (.int .i64 pos) rfl;simp only [Nat.add_zero] at c0;have HB:=Hi (Blk.new wr [.string p,.int .i64 m,.int .u32 (sum:Nat),.int .i64 l2,.int .i64 wh,.int .i64 k,.int .i64 md,.int .u32 (t:Nat),.int .i64 pos] 26);have HU1:=Hi (HU.out.alloc (.cells #[.string p,.int .i64 m,.int .u32 (sum:Nat),.int .i64 l2,.int .i64 wh,.int .i64 k,.int .i64 md,.int .u32 (t:Nat),.int .i64 pos] 26));(go_upto_region 6 with fail);change Code.wp _ _ _ _ (wr.alloc (.cells #[.string p,.int .i64 m,.int .u32 (sum:Nat),.int .i64 l2,.int .i64 wh,.int .i64 k,.int .i64 md,.int .u32 (t:Nat),.int .i64 pos] 26));generalize wr.alloc (.cells #[.string p,.int .i64 m,.int .u32 (sum:Nat),.int .i64 l2,.int .i64 wh,.int .i64 k,.int .i64 md,.int .u32 (t:Nat),.int .i64 pos] 26)=w2 at *;generalize wr.heap.size=q at *;clear c0 c1 c2 c3 c4 c5 c6 c7 c8 HCA HU;have kA:=HB.out.all;have k3:=HB.out.cell 3 rfl;have k4:=HB.out.cell 4 rfl;have k8:=HB.out.cell 8 rfl;(go_wp2_with fail);refine (HNM.out _).mono ?_;rintro e w3 ⟨rfl,hu3⟩;have HU3:=Hi (HU1.out.then hu3);clear kA k3 k4 k8 hu3 HB HU1;go_wp2;go_roundg (n-(i+1))
    · exact ⟨i+1,by omega,rfl,by first | rfl | go_num,by rw [HD.out]; congr 1; omega,by rw [HD.out]; omega,HU3⟩
    · omega
  · have hcz : ¬ (i:Int)<(n:Int):=(by omega);obtain rfl:i=n:=(by omega);have HT:Hid (l.take i=l):=Hi (List.take_of_length_le (by rw [HN.out]; omega));rw [HT.out];clear hdi HT;have HU2:=HU;clear HU;generalize hE:(s.size:Int)-22-(qt l:Nat)=E at *;clear hE hw0 hd;go_wp2;go_loopg [6,35] i (fun gg v6 s35 wr => ∃ (j:Nat) (out:List (Int×Int)),j≤i∧gg=i-j∧s35 = .int .i64 (j:Nat)∧out.length≤j∧Hid (LP=vZ s E (l.drop j) out)∧Hid (Row wr 65 2 v6 out.length (spC out))∧Hid (∀ b,v6.ownBlock=some b→w.heap.size≤b)∧Hid (Upd [] w wr))
    case atStart=>exact ⟨0,[],Nat.zero_le _,rfl,rfl,Nat.zero_le _,HLV,Hi (Row.nil _ _ _),Hi (by simp [Value.ownBlock]),HU2⟩
    case round =>
     clear HU2 HLV;obtain ⟨j,out,hjn,rfl,rfl,ho,HE,HR,HO,HU⟩:=hrel;obtain ⟨va,vc,hvf⟩:=HR.out.form;subst hvf;by_cases hc:j<i
     · have hcz:(j:Int)<(i:Int):=(by omega);have hil:j<l.length:=(by rw [HN.out]; exact hc);obtain ⟨b1,o1,rfl,g1⟩:=H.out j hil;obtain ⟨r,hr⟩ : ∃ r,r=l[j]:=⟨_,rfl⟩;rw [← hr] at g1;have hf:r.Fits:=HL.out r (by rw [hr]; exact List.getElem_mem hil);have HDT0:=fun z=>zeP s r z hs hf;have HBD:=Hi (fun h=>zbE s r hs h);have HST:Hid (LP=if (xp s r).2.2≠0 then ([],(xp s r).2.2)
        else if E<r.pos+(xp s r).2.1∨out.any (yR (r.pos,r.pos+(xp s r).2.1))=true then ([],2)
        else vZ s E (l.drop (j+1)) (out++[(r.pos,r.pos+(xp s r).2.1)])):=Hi (by rw [HE.out,List.drop_eq_getElem_cons hil,← hr]; rfl)
       have HCA:=Hi (fun f x h=>HU.out.keep (g1 f x h));clear g1 hf hr HE;unfold zd2 at HDT0;generalize xp s r=X at *;obtain ⟨dx,nx,wx⟩:=X;obtain ⟨p,m,sum,l2,wh,k,md,t,pos⟩:=r;unfold RecD.v at HDT0;unfold RecD.cells at HCA;dsimp only at HDT0 HCA HBD HST;have HDT:=Hi HDT0;clear HDT0;have hw3:IntKind.i64.wrap ((j:Int)+1)=(j:Int)+1:=IntWalk.i64_in _ (by omega);have c0:=HCA.out 0 (.string p) rfl;have c1:=HCA.out 1 (.int .i64 m) rfl;have c2:=HCA.out 2 (.int .u32 (sum:Nat)) rfl;have c3:=HCA.out 3 (.int .i64 l2) rfl;have c4:=HCA.out 4 (.int .i64 wh) rfl;have c5:=HCA.out 5 (.int .i64 k) rfl;have c6:=HCA.out 6 (.int .i64 md) rfl;have c7:=HCA.out 7 (.int .u32 (t:Nat)) rfl;have c8:=HCA.out 8 (.int .i64 pos) rfl;simp only [Nat.add_zero] at c0;have HB:=Hi (Blk.new wr [.string p,.int .i64 m,.int .u32 (sum:Nat),.int .i64 l2,.int .i64 wh,.int .i64 k,.int .i64 md,.int .u32 (t:Nat),.int .i64 pos] 26);have HU1:=Hi (HU.out.alloc (.cells #[.string p,.int .i64 m,.int .u32 (sum:Nat),.int .i64 l2,.int .i64 wh,.int .i64 k,.int .i64 md,.int .u32 (t:Nat),.int .i64 pos] 26));have HR1:=Hi (HR.out.alloc (.cells #[.string p,.int .i64 m,.int .u32 (sum:Nat),.int .i64 l2,.int .i64 wh,.int .i64 k,.int .i64 md,.int .u32 (t:Nat),.int .i64 pos] 26));(go_upto_region 11 with fail);change Code.wp _ _ _ _ (wr.alloc (.cells #[.string p,.int .i64 m,.int .u32 (sum:Nat),.int .i64 l2,.int .i64 wh,.int .i64 k,.int .i64 md,.int .u32 (t:Nat),.int .i64 pos] 26));generalize wr.alloc (.cells #[.string p,.int .i64 m,.int .u32 (sum:Nat),.int .i64 l2,.int .i64 wh,.int .i64 k,.int .i64 md,.int .u32 (t:Nat),.int .i64 pos] 26)=w3 at *;generalize wr.heap.size=q at *;clear c0 c1 c2 c3 c4 c5 c6 c7 c8 HCA HU HR;have kA:=HB.out.all;have k3:=HB.out.cell 3 rfl;have k4:=HB.out.cell 4 rfl;have k8:=HB.out.cell 8 rfl;(go_wp2_with fail);refine (HDT.out _).mono ?_;rintro e w4 ⟨rfl,hu4⟩;have HB4:=Hi (HB.out.upd hu4 (by simp));have HU4:=Hi (HU1.out.then hu4);have HR4:=Hi (HR1.out.upd hu4 (by simp));clear kA k3 k4 k8 hu4 HB HU1 HR1 HDT;by_cases h1:wx=0;rotate_left
       · have e1:(((wx:Nat):Int) != 0)=true:=(by rw [bne_iff_ne]; omega);have HV:=Hi (HST.out.trans (if_pos h1));clear h1;go_wp2;go_returns;exact ⟨⟨_,by rw [HV.out]; rfl,by rw [HV.out]; exact Row.nil _ _ _⟩,HU4.out⟩
       have HS1:=Hi (HST.out.trans (if_neg (by simp [h1])));obtain ⟨hp1,hp2,hp3⟩:=HBD.out h1;subst h1;clear HBD HST;obtain ⟨y,hy⟩ : ∃ y,pos+nx=y:=⟨_,rfl⟩;have hw4:IntKind.i64.wrap (pos+nx)=y:=(by rw [← hy]; exact IntWalk.i64_in _ (by omega));rw [hy] at HS1;have hyb:0≤y∧y≤6000000000:=(by omega);clear hy hp1 hp2 hp3;obtain ⟨ol,hol⟩ : ∃ ol,out.length=ol:=⟨_,rfl⟩;have HOL:=Hi hol;have HSA:=Hi (Row.spAt HR4.out);rw [hol] at ho HR4 HO ⊢;clear hol;go_wp2;go_loopg [51] ol (fun gg s51 wq => ∃ k3,k3≤ol∧gg=ol-k3∧s51 = .int .i64 (k3:Nat)∧Hid (∀ k4,(hk:k4<out.length)→k4<k3→yR (pos,y) out[k4]=false)∧Hid (Upd [] w4 wq))
       case atStart=>exact ⟨0,Nat.zero_le _,rfl,rfl,Hi (fun j _ h=>by omega),Hi (Upd.refl _ _)⟩
       case round =>
        obtain ⟨k3,hk3,rfl,rfl,HT,HUq⟩:=hrel;by_cases hc3:k3<ol
        · have hcz3:(k3:Int)<(ol:Int):=(by omega);have hkl:k3<out.length:=(by rw [HOL.out]; exact hc3);obtain ⟨a5,cap5,hf5,hcap5,hg5⟩:=HSA.out;simp only [Value.slice.injEq] at hf5;obtain ⟨rfl,_,rfl⟩:=hf5;obtain ⟨b5,o5,rfl,d1,d2⟩:=hg5 k3 hkl;clear hg5;have c1:=HUq.out.keep d1;have c2:=HUq.out.keep d2;have HME:Hid (yR (pos,y) out[k3]=(decide (out[k3].1<y)&&decide (pos<out[k3].2))):=Hi rfl;have HTI:Hid (yR (pos,y) out[k3]=false → ∀ k4,(hk:k4<out.length)→k4<k3+1→yR (pos,y) out[k4]=false):=Hi (fun h j2 hj2 hlt=>by
           rcases Nat.lt_or_ge j2 k3 with hji | hji
           · exact HT.out j2 hj2 hji
           · have:j2=k3:=(by omega);subst this; exact h)
          have HAN:Hid (yR (pos,y) out[k3]=true→out.any (yR (pos,y))=true):=Hi (fun h=>List.any_eq_true.2 ⟨_,List.getElem_mem hkl,h⟩);clear d1 d2;generalize out[k3]=x5 at *;obtain ⟨x1,x2⟩:=x5;dsimp only at c1 c2 HME;have k8:=(HB4.out.upd HUq.out (by simp)).cell 8 rfl;have HU6:=Hi (HUq.out.alloc (.cells #[.int .i64 x1,.int .i64 x2] 65));have HX:=Hi (Blk.new wr [.int .i64 x1,.int .i64 x2] 65);have hw6:IntKind.i64.wrap ((k3:Int)+1)=(k3:Int)+1:=IntWalk.i64_in _ (by omega);have hk9:=Nat.le_trans (Nat.le_of_lt hkl) hcap5;have k8b:=((HB4.out.upd HUq.out (by simp)).alloc (.cells #[.int .i64 x1,.int .i64 x2] 65)).cell 8 rfl;(go_upto_region 17 with fail);change Code.wp _ _ _ _ (wr.alloc (.cells #[.int .i64 x1,.int .i64 x2] 65));generalize wr.alloc (.cells #[.int .i64 x1,.int .i64 x2] 65)=w7 at *;generalize wr.heap.size=c7 at *;clear k8 c1 c2;have yA:=HX.out.all;by_cases g1:pos<x2
          · by_cases g2:x1<y
            · have HV:=Hi (HS1.out.trans (if_pos (.inr (HAN.out (by rw [HME.out,decide_eq_true g1,decide_eq_true g2]; rfl)))));go_wp2;go_returns;exact ⟨⟨_,by rw [HV.out]; rfl,by rw [HV.out]; exact Row.nil _ _ _⟩,HU4.out.then HU6.out⟩
            · have HT2:=Hi (HTI.out (by rw [HME.out,decide_eq_false g2]; rfl));go_wp2;go_roundg (ol-(k3+1))
              · exact ⟨k3+1,by omega,rfl,by first | rfl | go_num,HT2,HU6⟩
              · omega
          · have HT2:=Hi (HTI.out (by rw [HME.out,decide_eq_false g1,Bool.and_false]));go_wp2;go_roundg (ol-(k3+1))
            · exact ⟨k3+1,by omega,rfl,by first | rfl | go_num,HT2,HU6⟩
            · omega
        · have hcz3 : ¬ (k3:Int)<(ol:Int):=(by omega);obtain rfl:k3=ol:=(by omega);have HNA:Hid (out.any (yR (pos,y))=false):=Hi (by
           rw [Bool.eq_false_iff];intro h2;obtain ⟨x,hx,h3⟩:=List.any_eq_true.1 h2;obtain ⟨j2,hj2,rfl⟩:=List.mem_iff_getElem.1 hx;have:=HT.out j2 hj2 (by rw [← HOL.out]; exact hj2);rw [this] at h3; cases h3)
          have HBq:=Hi (HB4.out.upd HUq.out (by simp));have HRq:=Hi (HR4.out.upd HUq.out (by simp));have HUz:=Hi (HU4.out.then HUq.out);clear HT HUq HB4 HR4 HU4 HSA;have k8:=HBq.out.cell 8 rfl;by_cases h2:E<y
          · have HV:=Hi (HS1.out.trans (if_pos (.inl h2)));go_wp2;go_returns;exact ⟨⟨_,by rw [HV.out]; rfl,by rw [HV.out]; exact Row.nil _ _ _⟩,HUz.out⟩
          have HV:=Hi (HS1.out.trans (if_neg (fun h=>by rcases h with h | h; exact h2 h; rw [HNA.out] at h; cases h)));clear HS1 HNA;(go_wp2_with (at_builtin; refine zH _ rfl _ _ 28 rfl 65 i0 _ 2 16 Tryz.underlying28 hi hz0 hz1 hz2 rfl (by omega) (.slice va k3 vc) k3 _ rfl (HRq.out.alloc _) ⟨wr.heap.size,0,none⟩ 1 1 [.int .i64 pos,.int .i64 y] rfl rfl (World.news_of_block (cs := #[.int .i64 pos,.int .i64 y]) (t:=65) (fr:=(0,0)) (heap_alloc_new _ _)) (by simp [Value.oneCell']) (by unfold maxLen; omega) (by omega) ?_));rintro v9 w9 hR9 hU9 hT9;obtain ⟨va9,vc9,rfl⟩:=hR9.form;have HF:Hid (Row w9 65 2 (.slice va9 (k3+1) vc9) (out++[(pos,y)]).length (spC (out++[(pos,y)]))∧(∀ b,(Value.slice va9 (k3+1) vc9).ownBlock=some b→w.heap.size≤b)∧Upd [] w w9):=Hi ⟨by
           rw [List.length_append,zam,HOL.out]; exact hR9,fun b hb=>by
           have:=HUz.out.size;rcases hT9 with e | ⟨g,e1,e2⟩
           · exact HO.out b (by rw [← e]; simpa using hb)
           · rw [hb] at e1; simp at e1 e2; omega,(HUz.out.then ((Upd.refl _ _).alloc _)).trans hU9 (fun k hk => .inr (HO.out k (by simpa using hk)))⟩
          clear hR9 hU9 hT9 HRq HUz HO k8 HBq;go_wp2;go_roundg (i-(j+1));all_goals first
           | omega
           | exact ⟨j+1,out++[(pos,y)],by omega,rfl,by first | rfl | go_num,by simp; have:=HOL.out; omega,HV,Hi HF.out.1,Hi HF.out.2.1,Hi HF.out.2.2⟩
     · have hcz : ¬ (j:Int)<(i:Int):=(by omega);obtain rfl:j=i:=(by omega);have HV:Hid (LP=(out,0)):=Hi (by rw [HE.out,List.drop_of_length_le (by rw [HN.out]; omega)]; rfl);go_wp2;go_returns;exact ⟨⟨_,by rw [HV.out]; rfl,by rw [HV.out]; exact HR.out⟩,HU.out⟩
theorem zbS (l:List (Int×Int)) (u v:Value) (w:World) (hu:SpAt w u l) (hv:SpAt w v l) (hl:l.length≤1000000) :
 Calls Tryz.prog 10 #[u,v] w fun e w'=>e = .returned (.bool true)∧Upd [] w w':=by
 obtain ⟨a1,cap1,rfl,hcap1,hc1⟩:=hu;obtain ⟨a2,cap2,rfl,hcap2,hc2⟩:=hv;have HC1:=Hi hc1;have HC2:=Hi hc2;obtain ⟨n,hn⟩ : ∃ n,l.length=n:=⟨_,rfl⟩;have HN:=Hi hn;rw [hn] at hcap1 hcap2 hl ⊢;clear hc1 hc2 hn;go_enter Tryz.func10,Tryz.ntmps10;go_wp2;go_loopg [5,13] n (fun gg s5 s13 wr => ∃ i,i≤n∧gg=n-i∧s13 = .int .i64 (i:Nat)∧Hid (Upd [] w wr))
 case atStart=>exact ⟨0,Nat.zero_le _,rfl,rfl,Hi (Upd.refl _ _)⟩
 case round =>
  obtain ⟨i,hin,rfl,rfl,HU⟩:=hrel;by_cases hc:i<n
  · have hcz:(i:Int)<(n:Int):=(by omega);have hi1:i<l.length:=(by rw [HN.out]; exact hc);obtain ⟨b1,o1,rfl,d1,d2⟩:=HC1.out i hi1;obtain ⟨b2,o2,rfl,d3,d4⟩:=HC2.out i hi1;have c1:=HU.out.keep d1;have c2:=HU.out.keep d2;have c3:=HU.out.keep d3;have c4:=HU.out.keep d4;have hw1:IntKind.i64.wrap ((i:Int)+1)=((i+1:Nat):Int):=(by rw [IntWalk.i64_in _ (by omega)]; rfl);generalize l[i]=y at *;obtain ⟨y1,y2⟩:=y;dsimp only at c1 c2 c3 c4;clear d1 d2 d3 d4;go_upto_region 6 with fail
    go_quiet (fail)
    have HU2:=Hi (HU.out.drewN nq);clear c1 c2 c3 c4;generalize wr.drewN nq=w2 at *;go_wp2;go_roundg (n-(i+1))
    · exact ⟨i+1,by omega,rfl,by first | rfl | go_num,HU2⟩
    · omega
  · have hcz : ¬ (i:Int)<(n:Int):=(by omega);go_wp2;go_ret;exact ⟨rfl,HU.out⟩
theorem zb5 {r:RecD} (h:yf r=0):r.p.size≤200:=by
 obtain ⟨n1,n2,_⟩:=zaq (xv h).1;have:=JQ n1;rw [n2,zi] at this;exact this
theorem zkk:QV 99:=⟨by kernel_rfl,by decide⟩
theorem Qa {w:World} {b o:Nat} {u:Value} (h:w.cell? ⟨b,o,none⟩=some u):b<w.heap.size:=by
 rcases Nat.lt_or_ge b w.heap.size with h1 | h1
 · exact h1
 · rw [show w.cell? ⟨b,o,none⟩=none by simp [World.cell?,Array.getElem?_eq_none h1]] at h; cases h
theorem RecsAt.below {w w':World} {v:Value} {l:List RecD} {B:Nat} (h:RecsAt w v l) (hb:Below B w w') (hB:w.heap.size≤B):RecsAt w' v l:=by
 obtain ⟨a,cap,e,h⟩:=h;refine ⟨a,cap,e,fun i hi=>?_⟩;obtain ⟨b,off,e2,h2⟩:=h i hi;exact ⟨b,off,e2,fun f u hu=>(hb.cell (p:=⟨b,_,none⟩) (Nat.lt_of_lt_of_le (Qa (h2 f u hu)) hB)).trans (h2 f u hu)⟩
theorem RecsAt.upd {w w':World} {v:Value} {l:List RecD} (h:RecsAt w v l) (hu:Upd [] w w'):RecsAt w' v l:=h.below hu.below (Nat.le_refl _)
def xz (l:List RecD):List Nat:=l.flatMap yO
theorem ZF (a b:List RecD):xz (a++b)=xz a++xz b:=List.flatMap_append
theorem JF (r:RecD):(yO r).length≤300:=by
 unfold yO;split
 · rename_i h;rw [zc5];have:=zb5 h;have:=xn r.k r.p;omega
 · simp
theorem Jh : ∀ l:List RecD,(xz l).length≤l.length*300
 | []=>by simp [xz]
 | r::l=>by
   have h1:=Jh l;have h2:=JF r;show (yO r++xz l).length≤_;rw [List.length_append,List.length_cons];omega
theorem ziZ (l:List RecD) : ∀ x∈xz l,x<256:=fun x hx=>by
 obtain ⟨r,_,h⟩:=List.mem_flatMap.1 hx;exact Yq r x h
def kF (n s a:Nat):List Nat:=[80,75,5,6,0,0,0,0]++(leP n 2++(leP n 2++(leP s 4++(leP a 4++leP 0 2))))
theorem Xy (n s a:Nat):(kF n s a).length=22:=by simp [kF,zy]
theorem ziS (n s a:Nat) : ∀ x∈kF n s a,x<256:=fun x hx=>by
 unfold kF at hx;simp only [List.mem_append] at hx;rcases hx with h | h | h | h | h | h
 · simp at h; omega
 all_goals exact Ya _ _ x h
theorem Wd {T:TypeId} (B b:Nat) (w:World) (h:Bld T B b [] w) :
 Calls Tryz.prog 52 #[.pointer (some ⟨b,0,none⟩)] w fun e w'=>e = .returned (.string .empty)∧Upd [] w w':=by
 obtain ⟨p,hB,v,hbk,hown,hne⟩ : ∃ p,Lib.BuilderAtF T 5 B b p (u8s []) w:=by
  rcases h with h | h
  · exact ⟨_,h⟩
  · exact ⟨_,h⟩
 have c1:w.drew.cell? ⟨b,1,none⟩=some v:=by
  have:w.drew.heap[b]? =some (.cells #[p,v] T (0,0)):=hbk;rw [Lib.cell_of_heap this]; rfl
 have hUS : ∀ (q:Option Addr) (z:World),(Builtin.unsafeString_ #[157,3] 9 #[.pointer q,.int .i64 0]).run Tryz.prog z = .ok (.string .empty) z:=fun q z=>Lib.run_unsafeString_none _ _ _ _ _;have HU:=Hi ((Upd.refl [] w).drew);have hlt:b<w.heap.size:=(Array.getElem?_eq_some_iff.1 hbk).1;clear h hbk hB hne;rcases hown.2 with ⟨rfl,_⟩ | ⟨g,cap,cur,fz,rfl,_,hg,_⟩
 · have hSD : ∀ z,(Builtin.unsafeSliceData_ #[97] 157 #[.slice none 0 0]).run Tryz.prog z = .ok (.pointer none) z:=fun z=>Lib.run_unsafeSliceData_nil _ _ _ _ _;clear hown;go_enter Tryz.func52,Tryz.ntmps52;go_wp2
   go_region
   all_goals (go_wp2; go_ret; exact ⟨rfl,HU.out⟩)
 · change w.drew.cell? _=some (.slice (some ⟨g,0,none⟩) 0 cap) at c1;by_cases hc:cap=0
   · subst hc;have hSD:(Builtin.unsafeSliceData_ #[97] 157 #[.slice (some ⟨g,0,none⟩) 0 0]).run Tryz.prog w.drew = .ok (.pointer (some ⟨w.drew.heap.size,0,none⟩)) (w.drew.alloc (.view ⟨g,0,none⟩ 5)) :=
      Lib.run_unsafeSliceData_zero _ _ _ _ Tryz.underlying157 _ _ (5,cur.size) (by have hg':w.drew.heap[g]? =some (.cells cur 5 fz):=hg; simp [World.shape?,hg'])
     have c2:(w.alloc (.view ⟨g,0,none⟩ 5)).cell? ⟨b,1,none⟩=some (.slice (some ⟨g,0,none⟩) 0 0):=(((Upd.refl [] w).alloc (.view ⟨g,0,none⟩ 5)).at hlt (by simp) 1).trans c1;have HU2:=Hi (HU.out.alloc (.view ⟨g,0,none⟩ 5));clear hown hg;go_enter Tryz.func52,Tryz.ntmps52;go_wp2
     go_region
     all_goals (go_wp2; go_ret; exact ⟨rfl,HU2.out⟩)
   · have hSD : ∀ z,(Builtin.unsafeSliceData_ #[97] 157 #[.slice (some ⟨g,0,none⟩) 0 cap]).run Tryz.prog z = .ok (.pointer (some ⟨g,0,none⟩)) z:=fun z=>Lib.run_unsafeSliceData_row _ _ _ _ _ _ hc;clear hown hg;go_enter Tryz.func52,Tryz.ntmps52;go_wp2
     go_region
     all_goals (go_wp2; go_ret; exact ⟨rfl,HU.out⟩)
end Go.Proofs.YtfkenhihcmmgkaaGreatDoor
