/- Package swingleref22: Data: its walk. -/
import Derived.Deep.CutBlock
import Derived.Test.YtfkcdnaghndgfaaGreatDoorQAS
import Derived.Test.YtfkcdnaghndgfaaGreatDoorQAT
import Derived.Test.YtfkcdnaghndgfaaGreatDoorQAR
import Derived.Test.YtfkcdnaghndgfaaGreatDoorQAX
import Derived.Test.YtfkcdnaghndgfaaGreatDoorQAV
import Derived.Test.YtfkcdnaghndgfaaGreatDoorQAY
import Derived.Test.YtfkcdnaghndgfaaGreatDoorROf
import Derived.Test.YtfkcdnaghndgfaaGreatDoorQAU
import Derived.Test.YtfkcdnaghndgfaaGreatDoorQAQ
set_option linter.unusedVariables false
set_option linter.unusedSimpArgs false
set_option linter.unusedSectionVars false
namespace Go.Proofs.YtfkcdnaghndgfaaGreatDoor
open Go.RowKit
theorem zeQ (d:ByteArray) (h:d.size=0):yA d=0:=by
 have e:za d=[]:=List.eq_nil_of_length_eq_zero (by rw [zc]; exact h)
 unfold yA
 rw [e]
 rfl
set_option maxRecDepth 100000 in
set_option maxHeartbeats 6400000 in
theorem Vs (s:ByteArray) (r:RecD) (w:World) (hsz:s.size≤1000000) (hr:r.Fits) :
 Calls Tryz.prog 15 #[.string s,r.v] w fun e w'=>e = .returned (zaI (xE s r))∧Upd [] w w':=by
 have HRT:=Lib.hid (fun z=>Kv r z hr)
 have HRD0:=fun z=>KF s r.pos z hsz
 have HRP:=Lib.hid (VN (s:=s) (a:=r.pos))
 have HBD:=Lib.hid (fun h=>Qu (r:=r) h)
 have HTA0:=fun z=>zdN s (r.pos+(zh s r.pos).2.1+r.l) z hsz
 have HOF0:=fun z h=>zhl (s.extract (r.pos+(zh s r.pos).2.1).toNat (r.pos+(zh s r.pos).2.1+r.l).toNat) r.wh z h
 rw [zdp] at HOF0
 have HTL:=Lib.hid (Wu s (zh s r.pos).1 r (r.pos+(zh s r.pos).2.1) (zh s r.pos).2.2.1)
 have HDD:Hid (xE s r=if yF r≠0 then (⟨#[]⟩,0,1)
  else if (zh s r.pos).2.2.2≠0 then (⟨#[]⟩,0,(zh s r.pos).2.2.2)
  else if vY (zh s r.pos).1 r=false then (⟨#[]⟩,0,2)
  else if (qJ s (zh s r.pos).1 r (r.pos+(zh s r.pos).2.1) (zh s r.pos).2.2.1).2≠0 then (⟨#[]⟩,0,(qJ s (zh s r.pos).1 r (r.pos+(zh s r.pos).2.1) (zh s r.pos).2.2.1).2)
  else if (s.size:Int)-(r.pos+(zh s r.pos).2.1)<r.l then (⟨#[]⟩,0,3)
  else if (xg (s.extract (r.pos+(zh s r.pos).2.1).toNat (r.pos+(zh s r.pos).2.1+r.l).toNat) r).2≠0 then (⟨#[]⟩,0,(xg (s.extract (r.pos+(zh s r.pos).2.1).toNat (r.pos+(zh s r.pos).2.1+r.l).toNat) r).2)
  else ((xg (s.extract (r.pos+(zh s r.pos).2.1).toNat (r.pos+(zh s r.pos).2.1+r.l).toNat) r).1,(zh s r.pos).2.1+r.l+(qJ s (zh s r.pos).1 r (r.pos+(zh s r.pos).2.1) (zh s r.pos).2.2.1).1,0)):=Lib.hid rfl
 have HAE:Hid (vY (zh s r.pos).1 r=decide ((zh s r.pos).1.p=r.p∧(zh s r.pos).1.m=r.m∧(zh s r.pos).1.k=r.k∧(zh s r.pos).1.t=r.t∧(zh s r.pos).1.pos=r.pos)):=Lib.hid rfl
 have HTE:Hid (qJ s (zh s r.pos).1 r (r.pos+(zh s r.pos).2.1) (zh s r.pos).2.2.1=if (zh s r.pos).2.2.1=true then (if (yY s (r.pos+(zh s r.pos).2.1+r.l)).2.2.2.2=false then (0,3)
  else if (yY s (r.pos+(zh s r.pos).2.1+r.l)).1≠r.sum∨((yY s (r.pos+(zh s r.pos).2.1+r.l)).2.1:Int)≠r.l∨((yY s (r.pos+(zh s r.pos).2.1+r.l)).2.2.1:Int)≠r.wh then (0,2) else ((yY s (r.pos+(zh s r.pos).2.1+r.l)).2.2.2.1,0))
  else if (zh s r.pos).1.sum≠r.sum∨(zh s r.pos).1.l≠r.l∨(zh s r.pos).1.wh≠r.wh then (0,2) else (0,0)):=Lib.hid rfl
 have HWE:Hid (xg (s.extract (r.pos+(zh s r.pos).2.1).toNat (r.pos+(zh s r.pos).2.1+r.l).toNat) r=if r.m=8 then (if (ofT (ofP (s.extract (r.pos+(zh s r.pos).2.1).toNat (r.pos+(zh s r.pos).2.1+r.l).toNat) r.wh)).2.2≠0 then (⟨#[]⟩,(ofT (ofP (s.extract (r.pos+(zh s r.pos).2.1).toNat (r.pos+(zh s r.pos).2.1+r.l).toNat) r.wh)).2.2) else if (ofT (ofP (s.extract (r.pos+(zh s r.pos).2.1).toNat (r.pos+(zh s r.pos).2.1+r.l).toNat) r.wh)).2.1≠(s.extract (r.pos+(zh s r.pos).2.1).toNat (r.pos+(zh s r.pos).2.1+r.l).toNat).size then (⟨#[]⟩,2) else ZH (ofT (ofP (s.extract (r.pos+(zh s r.pos).2.1).toNat (r.pos+(zh s r.pos).2.1+r.l).toNat) r.wh)).1 r) else ZH (s.extract (r.pos+(zh s r.pos).2.1).toNat (r.pos+(zh s r.pos).2.1+r.l).toNat) r):=Lib.hid rfl
 have HFF:Hid (∀ y:ByteArray,ZH y r=if 65000<r.wh then (⟨#[]⟩,4) else if (y.size:Int)≠r.wh then (⟨#[]⟩,2) else if r.k=1∧yA y≠r.sum then (⟨#[]⟩,11) else (y,0)):=Lib.hid (fun _=>rfl)
 generalize xE s r=DP at *
 generalize yF r=E at *
 generalize zh s r.pos=Q at *
 obtain ⟨h,n,lt,e0⟩:=Q
 dsimp only at HRD0 HTA0 HOF0 HDD HRP HAE HTE HWE HTL
 generalize vY h r=A at *
 generalize qJ s h r (r.pos+(n:Nat)) lt=TP at *
 obtain ⟨tl,tw⟩:=TP
 generalize hDg:s.extract (r.pos+(n:Nat)).toNat (r.pos+(n:Nat)+r.l).toNat=D at *
 generalize xg D r=WP at *
 obtain ⟨wd,ww⟩:=WP
 generalize ofT (ofP D r.wh)=OT at *
 obtain ⟨x,u,c0⟩:=OT
 generalize yY s (r.pos+(n:Nat)+r.l)=TT at *
 obtain ⟨x1,x2,x3,x4,x5⟩:=TT
 unfold zcX at HTA0
 obtain ⟨hp,hm,hs,hl,hw,hk,hd,ht,ho⟩:=h
 obtain ⟨p,m,sum,l,wh,k,md,t,pos⟩:=r
 unfold RecD.v at HRT
 unfold Vr RecD.v at HRD0
 dsimp only at HRT HRD0 HTA0 HOF0 HRP HBD HDD hDg HAE HTE HWE HFF HTL
 have HRD:=Lib.hid HRD0
 have HTA:=Lib.hid HTA0
 have HOF:=Lib.hid HOF0
 have HDE:=Lib.hid hDg
 clear HRD0 HTA0 HOF0 hDg hr
 unfold RecD.v
 dsimp only
 have HB:=Lib.hid (Blk.new w [.string p,.int .i64 m,.int .u32 (sum:Nat),.int .i64 l,.int .i64 wh,.int .i64 k,.int .i64 md,.int .u32 (t:Nat),.int .i64 pos] 26)
 have HU:=Lib.hid ((Upd.refl [] w).alloc (.cells #[.string p,.int .i64 m,.int .u32 (sum:Nat),.int .i64 l,.int .i64 wh,.int .i64 k,.int .i64 md,.int .u32 (t:Nat),.int .i64 pos] 26))
 go_enter Tryz.func15,Tryz.ntmps15
 go_upto_region 1 with fail
 change Code.wp _ _ _ _ (w.alloc (.cells #[.string p,.int .i64 m,.int .u32 (sum:Nat),.int .i64 l,.int .i64 wh,.int .i64 k,.int .i64 md,.int .u32 (t:Nat),.int .i64 pos] 26))
 generalize w.alloc (.cells #[.string p,.int .i64 m,.int .u32 (sum:Nat),.int .i64 l,.int .i64 wh,.int .i64 k,.int .i64 md,.int .u32 (t:Nat),.int .i64 pos] 26)=w1 at *
 generalize hge:w.heap.size=g at *
 have HWG:=Lib.hid (show w.heap.size≤g by omega)
 clear hge
 have kA:=HB.out.all
 have k3:=HB.out.cell 3 rfl
 have k4:=HB.out.cell 4 rfl
 have k8:=HB.out.cell 8 rfl
 go_wp2_with fail
 refine (HRT.out _).mono ?_
 rintro e w2 ⟨rfl,hu2⟩
 have HB2:=Lib.hid (HB.out.upd hu2 (by simp))
 have HU2:=Lib.hid (HU.out.then hu2)
 clear kA k3 k4 k8 hu2 HB HU HRT
 by_cases h0:E=0
 rotate_left
 · have e1:(((E:Nat):Int) != 0)=true:=by rw [bne_iff_ne]; omega
   have HV:=Lib.hid (HDD.out.trans (if_pos h0))
   clear h0
   go_wp2
   go_returns
   exact ⟨by rw [HV.out]; rfl,HU2.out⟩
 have HD1:=Lib.hid (HDD.out.trans (if_neg (by simp [h0])))
 obtain ⟨hb1,hb2,hb3,hb4⟩:=HBD.out h0
 have HBK:=Lib.hid hb4
 subst h0
 clear HDD HBD hb4
 have k8:=HB2.out.cell 8 rfl
 go_wp2_with fail
 refine (HRD.out _).mono ?_
 rintro e w3 ⟨rfl,hu3⟩
 have HB3:=Lib.hid ((HB2.out.upd hu3 (by simp)).alloc (.cells #[.string hp,.int .i64 hm,.int .u32 (hs:Nat),.int .i64 hl,.int .i64 hw,.int .i64 hk,.int .i64 hd,.int .u32 (ht:Nat),.int .i64 ho] 26))
 have HU3:=Lib.hid ((HU2.out.then hu3).alloc (.cells #[.string hp,.int .i64 hm,.int .u32 (hs:Nat),.int .i64 hl,.int .i64 hw,.int .i64 hk,.int .i64 hd,.int .u32 (ht:Nat),.int .i64 ho] 26))
 have HC3:=Lib.hid (Blk.new w3 [.string hp,.int .i64 hm,.int .u32 (hs:Nat),.int .i64 hl,.int .i64 hw,.int .i64 hk,.int .i64 hd,.int .u32 (ht:Nat),.int .i64 ho] 26)
 have HGC:Hid (g≠w3.heap.size∧w.heap.size≤w3.heap.size):=Lib.hid ⟨by have:=(HB2.out.upd hu3 (by simp)).lt; omega,by have:=(HU2.out.then hu3).size; omega⟩
 clear k8 hu3 HB2 HU2 HRD
 go_upto_region 4 with fail
 change Code.wp _ _ _ _ (w3.alloc (.cells #[.string hp,.int .i64 hm,.int .u32 (hs:Nat),.int .i64 hl,.int .i64 hw,.int .i64 hk,.int .i64 hd,.int .u32 (ht:Nat),.int .i64 ho] 26))
 generalize w3.alloc (.cells #[.string hp,.int .i64 hm,.int .u32 (hs:Nat),.int .i64 hl,.int .i64 hw,.int .i64 hk,.int .i64 hd,.int .u32 (ht:Nat),.int .i64 ho] 26)=w4 at *
 generalize w3.heap.size=c at *
 by_cases h1:e0=0
 rotate_left
 · have e1:(((e0:Nat):Int) != 0)=true:=by rw [bne_iff_ne]; omega
   have HV:=Lib.hid (HD1.out.trans (if_pos h1))
   clear h1
   go_wp2
   go_returns
   exact ⟨by rw [HV.out]; rfl,HU3.out⟩
 have HD2:=Lib.hid (HD1.out.trans (if_neg (by simp [h1])))
 obtain ⟨hp1,hp2,hp3,hp4⟩:=HRP.out h1
 subst h1
 clear HD1 HRP
 obtain ⟨f,hf⟩ : ∃ f,pos+(n:Int)=f:=⟨_,rfl⟩
 have hw1:IntKind.i64.wrap (pos+(n:Int))=f:=by rw [← hf]; exact IntWalk.i64_in _ (by omega)
 rw [hf] at HTA HD2 HDE
 have hf0:0≤f∧f≤(s.size:Int):=by omega
 have HPO:=Lib.hid hp1
 clear hf hp1 hp4
 have kA:=HB3.out.all
 have k3:=HB3.out.cell 3 rfl
 have k4:=HB3.out.cell 4 rfl
 have k8:=HB3.out.cell 8 rfl
 have aA:=HC3.out.all
 by_cases i1:hp=p
 rotate_left
 · have e1:(hp.toList==p.toList)=false:=Ys i1
   have e2:(hp.toList != p.toList)=true:=by rw [bne,e1]; rfl
   have HV:=Lib.hid (HD2.out.trans (if_pos (by rw [HAE.out]; simp [i1])))
   clear i1
   go_wp2
   go_returns
   exact ⟨by rw [HV.out]; rfl,HU3.out⟩
 by_cases i2:hk=k
 rotate_left
 · have e1:(hk != k)=true:=by rw [bne_iff_ne]; exact i2
   have HV:=Lib.hid (HD2.out.trans (if_pos (by rw [HAE.out]; simp [i2])))
   subst i1
   clear i2
   go_wp2
   go_returns
   exact ⟨by rw [HV.out]; rfl,HU3.out⟩
 by_cases i3:hm=m
 rotate_left
 · have e1:(hm != m)=true:=by rw [bne_iff_ne]; exact i3
   have HV:=Lib.hid (HD2.out.trans (if_pos (by rw [HAE.out]; simp [i3])))
   subst i1 i2
   clear i3
   go_wp2
   go_returns
   exact ⟨by rw [HV.out]; rfl,HU3.out⟩
 by_cases i4:ht=t
 rotate_left
 · have e1:(((ht:Nat):Int) != ((t:Nat):Int))=true:=by rw [bne_iff_ne]; omega
   have HV:=Lib.hid (HD2.out.trans (if_pos (by rw [HAE.out]; simp [i4])))
   subst i1 i2 i3
   clear i4
   go_wp2
   go_returns
   exact ⟨by rw [HV.out]; rfl,HU3.out⟩
 have HD3:=Lib.hid (HD2.out.trans (if_neg (by rw [HAE.out]; simp [i1,i2,i3,i4,HPO.out])))
 subst i1 i2 i3 i4
 clear HD2 HAE HPO
 have hw5:IntKind.i64.wrap (f+l)=f+l:=IntWalk.i64_in _ (by omega)
 go_upto_if 67 with fail
 clear kA k3 k4 k8 aA hw1
 go_cut [12] (fun s12 wx => ∃ (z1 z4:Nat) (z2 z3:Int),s12 = .int .i64 (z4:Nat)∧Blk wx c [.string hp,.int .i64 hm,.int .u32 (z1:Nat),.int .i64 z2,.int .i64 z3,.int .i64 hk,.int .i64 hd,.int .u32 (ht:Nat),.int .i64 ho] 26∧Blk wx g [.string hp,.int .i64 hm,.int .u32 (sum:Nat),.int .i64 l,.int .i64 wh,.int .i64 hk,.int .i64 md,.int .u32 (ht:Nat),.int .i64 pos] 26∧Upd [] w wx∧Hid ((tl,tw)=if z1≠sum∨z2≠l∨z3≠wh then (0,2) else (z4,0)))
 case first =>
  cases lt with
  | false =>
    have HF:=Lib.hid (HTE.out.trans (if_neg (by simp)))
    go_wp2
    go_meet
    exact ⟨hs,0,hl,hw,rfl,HC3.out,HB3.out,HU3.out,HF⟩
  | true =>
    have HF:=Lib.hid (HTE.out.trans (if_pos rfl))
    have k3:=HB3.out.cell 3 rfl
    go_wp2_with fail
    refine (HTA.out _).mono ?_
    rintro e w5 ⟨rfl,hu5⟩
    have HB4:=Lib.hid (HB3.out.upd hu5 (by simp))
    have HC4:=Lib.hid (HC3.out.upd hu5 (by simp))
    have HU4:=Lib.hid (HU3.out.then hu5)
    clear k3 hu5 HB3 HC3 HU3 HTA HTE
    cases x5 with
    | false =>
      have hT:=HF.out.trans (if_pos rfl)
      obtain ⟨rfl,rfl⟩:tl=0∧tw=3:=by simpa using hT
      have HV:=Lib.hid (HD3.out.trans (if_pos (by decide)))
      clear hT HF
      go_wp2
      go_returns
      exact ⟨by rw [HV.out]; rfl,HU4.out⟩
    | true =>
      have HF2:=Lib.hid (HF.out.trans (if_neg (by simp)))
      have HC5:=Lib.hid (((HC4.out.set 2 (.int .u32 (x1:Nat))).set 3 (.int .i64 (x2:Nat))).set 4 (.int .i64 (x3:Nat)))
      have HB5:=Lib.hid (((HB4.out.setFar (a:=⟨c,2,none⟩) (.int .u32 (x1:Nat)) HGC.out.1).setFar (a:=⟨c,3,none⟩) (.int .i64 (x2:Nat)) HGC.out.1).setFar (a:=⟨c,4,none⟩) (.int .i64 (x3:Nat)) HGC.out.1)
      have HU5:=Lib.hid (((HU4.out.setCell (p:=⟨c,2,none⟩) (.inr HGC.out.2) (.int .u32 (x1:Nat))).setCell (p:=⟨c,3,none⟩) (.inr HGC.out.2) (.int .i64 (x2:Nat))).setCell (p:=⟨c,4,none⟩) (.inr HGC.out.2) (.int .i64 (x3:Nat)))
      have aA:=HC4.out.all
      have fA:=HC4.out.frz
      go_wp2
      go_meet
      exact ⟨x1,x4,x2,x3,rfl,HC5.out,HB5.out,HU5.out,HF2⟩
 case rest =>
 obtain ⟨z1,z4,z2,z3,rfl,hC,hB,hU,HTZ⟩:=hcut
 have HBA:=Lib.hid hB
 have HUA:=Lib.hid hU
 have aA:=hC.all
 have kA:=hB.all
 have k3:=hB.cell 3 rfl
 have k4:=hB.cell 4 rfl
 clear hC hB hU HB3 HU3 HC3 HTE HTA
 by_cases j1:z1=sum
 rotate_left
 · have e1:(((z1:Nat):Int) != ((sum:Nat):Int))=true:=by rw [bne_iff_ne]; omega
   obtain ⟨rfl,rfl⟩:tl=0∧tw=2:=by simpa using HTZ.out.trans (if_pos (.inl j1))
   have HV:=Lib.hid (HD3.out.trans (if_pos (by decide)))
   clear j1
   go_wp2
   go_returns
   exact ⟨by rw [HV.out]; rfl,HUA.out⟩
 have e1:(((z1:Nat):Int) != ((sum:Nat):Int))=false:=by rw [bne_eq_false_iff_eq]; omega
 by_cases j2:z2=l
 rotate_left
 · have e2:(z2 != l)=true:=by rw [bne_iff_ne]; exact j2
   obtain ⟨rfl,rfl⟩:tl=0∧tw=2:=by simpa using HTZ.out.trans (if_pos (.inr (.inl j2)))
   have HV:=Lib.hid (HD3.out.trans (if_pos (by decide)))
   clear j1 j2
   go_wp2
   go_returns
   exact ⟨by rw [HV.out]; rfl,HUA.out⟩
 have e2:(z2 != l)=false:=by rw [bne_eq_false_iff_eq]; exact j2
 by_cases j3:z3=wh
 rotate_left
 · have e3:(z3 != wh)=true:=by rw [bne_iff_ne]; exact j3
   obtain ⟨rfl,rfl⟩:tl=0∧tw=2:=by simpa using HTZ.out.trans (if_pos (.inr (.inr j3)))
   have HV:=Lib.hid (HD3.out.trans (if_pos (by decide)))
   clear j1 j2 j3
   go_wp2
   go_returns
   exact ⟨by rw [HV.out]; rfl,HUA.out⟩
 have e3:(z3 != wh)=false:=by rw [bne_eq_false_iff_eq]; exact j3
 obtain ⟨rfl,rfl⟩:tl=z4∧tw=0:=by simpa using HTZ.out.trans (if_neg (by simp [j1,j2,j3]))
 have HD4:=Lib.hid (HD3.out.trans (if_neg (by simp)))
 clear j1 j2 j3 HD3 HTZ
 have hw2:IntKind.i64.wrap ((s.size:Int)-f)=(s.size:Int)-f:=IntWalk.i64_in _ (by omega)
 by_cases h3:(s.size:Int)-f<l
 · have HV:=Lib.hid (HD4.out.trans (if_pos h3))
   go_wp2
   go_returns
   exact ⟨by rw [HV.out]; rfl,HUA.out⟩
 have HD5:=Lib.hid (HD4.out.trans (if_neg h3))
 have hds:D.size≤1000000:=by rw [← HDE.out,ByteArray.size_extract]; omega
 have hfl:f+l≤(s.size:Int):=by omega
 have hff:f≤f+l:=by omega
 have hf1:0≤f+l:=by omega
 clear HD4
 go_upto_region 22 with fail
 clear aA kA k4 e1 e2 e3 h3 hw2
 generalize wc=wA at *
 go_cut [18] (fun s18 wx=>s18 = .string D∧wx=wA)
 case first =>
  have HSL:=HDE.out
  go_wp2
  go_meet
  exact ⟨by first | rfl | (rw [HSL]),rfl⟩
 case rest =>
 obtain ⟨rfl,rfl⟩:=hcut
 clear k3
 have kA:=HBA.out.all
 have k4:=HBA.out.cell 4 rfl
 go_upto_if 124 with fail
 go_cut [18] (fun s18 wx => ∃ y:ByteArray,s18 = .string y∧Blk wx g [.string hp,.int .i64 hm,.int .u32 (sum:Nat),.int .i64 l,.int .i64 wh,.int .i64 hk,.int .i64 md,.int .u32 (ht:Nat),.int .i64 pos] 26∧Upd [] w wx∧Hid ((wd,ww)=ZH y ⟨hp,hm,sum,l,wh,hk,md,ht,pos⟩))
 case first =>
  by_cases hm8:hm=8
  · subst hm8
    have HW2:=Lib.hid (HWE.out.trans (if_pos rfl))
    have HOF2:=Lib.hid (fun z=>HOF.out z (by omega))
    clear HWE HOF
    go_wp2_with fail
    refine (HOF2.out _).mono ?_
    rintro e w7 ⟨rfl,hu7⟩
    have HB7:=Lib.hid (HBA.out.upd hu7 (by simp))
    have HU7:=Lib.hid (HUA.out.then hu7)
    clear kA k4 hu7 HBA HUA HOF2
    by_cases hc:c0=0
    rotate_left
    · have ec:(((c0:Nat):Int) != 0)=true:=by rw [bne_iff_ne]; omega
      obtain ⟨rfl,rfl⟩:wd=⟨#[]⟩∧ww=c0:=by simpa using HW2.out.trans (if_pos hc)
      have HV:=Lib.hid (HD5.out.trans (if_pos hc))
      clear hc
      go_wp2
      go_returns
      exact ⟨by rw [HV.out]; rfl,HU7.out⟩
    subst hc
    have HW3:=Lib.hid (HW2.out.trans (if_neg (by simp)))
    by_cases hu:u=D.size
    · have eu:(((u:Nat):Int) != (D.size:Int))=false:=by rw [bne_eq_false_iff_eq]; omega
      have HF:=Lib.hid (HW3.out.trans (if_neg (by simp [hu])))
      clear hu
      go_wp2
      go_meet
      exact ⟨x,rfl,HB7.out,HU7.out,HF⟩
    · have eu:(((u:Nat):Int) != (D.size:Int))=true:=by rw [bne_iff_ne]; omega
      obtain ⟨rfl,rfl⟩:wd=⟨#[]⟩∧ww=2:=by simpa using HW3.out.trans (if_pos hu)
      have HV:=Lib.hid (HD5.out.trans (if_pos (by decide)))
      clear hu
      go_wp2
      go_returns
      exact ⟨by rw [HV.out]; rfl,HU7.out⟩
  · have HF:=Lib.hid (HWE.out.trans (if_neg hm8))
    have em:(hm==8)=false:=by rw [beq_eq_false_iff_ne]; exact hm8
    clear HWE HOF hm8
    go_wp2
    go_meet
    exact ⟨D,rfl,HBA.out,HUA.out,HF⟩
 case rest =>
 obtain ⟨y,rfl,hB,hU,HFY⟩:=hcut
 have HBD:=Lib.hid hB
 have HUD:=Lib.hid hU
 clear kA k4 HBA HUA hB hU HWE HOF
 have HF0:=Lib.hid (HFY.out.trans (HFF.out y))
 have k4:=HBD.out.cell 4 rfl
 by_cases g1:(65000:Int)<wh
 · obtain ⟨rfl,rfl⟩:wd=⟨#[]⟩∧ww=4:=by simpa using HF0.out.trans (if_pos g1)
   have HV:=Lib.hid (HD5.out.trans (if_pos (by decide)))
   go_wp2
   go_returns
   exact ⟨by rw [HV.out]; rfl,HUD.out⟩
 have HF1:=Lib.hid (HF0.out.trans (if_neg g1))
 by_cases g2:(y.size:Int)=wh
 rotate_left
 · have e2:((y.size:Int) != wh)=true:=by rw [bne_iff_ne]; exact g2
   obtain ⟨rfl,rfl⟩:wd=⟨#[]⟩∧ww=2:=by simpa using HF1.out.trans (if_pos g2)
   have HV:=Lib.hid (HD5.out.trans (if_pos (by decide)))
   clear g2
   go_wp2
   go_returns
   exact ⟨by rw [HV.out]; rfl,HUD.out⟩
 have e2:((y.size:Int) != wh)=false:=by rw [bne_eq_false_iff_eq]; exact g2
 have HF2:Hid ((wd,ww)=if yA y≠sum then (⟨#[]⟩,11) else (y,0)):=Lib.hid (by
  rw [HF1.out,if_neg (by simp [g2])]
  rcases HBK.out with h | ⟨h,h5,_,h6,_⟩
  · simp [h]
  · rw [if_neg (by omega),if_neg (by rw [zeQ y (by omega),h5]; simp)])
 have HCR:=Lib.hid (fun z=>zhp y z (by omega))
 clear HF0 HF1 HFF HFY
 go_upto_region 34 with fail
 clear g1 g2 e2 k4
 refine wp_region_held_drew (S:=fun w'=>Blk w' g [.string hp,.int .i64 hm,.int .u32 (sum:Nat),.int .i64 l,.int .i64 wh,.int .i64 hk,.int .i64 md,.int .u32 (ht:Nat),.int .i64 pos] 26∧Upd [] w w') (by kernel_rfl) ⟨HBD.out.drew,HUD.out.drew⟩ (fun hHeld=>hdN ?_)
 refine hdT 0 (some 149) ?_; refine hdT 2 (some 151) ?_
 refine hdT 3 (some 152) ?_ (hy:=by intro w0 hSw; have q0:=hSw.1.cell 2 rfl; go_simp; try with_reducible rfl)
 refine hdO 1 (fun K hK=>?_)
 go_simp
 refine (HCR.out _).mono ?_
 rintro e z9 ⟨rfl,hz9⟩
 subst hz9
 go_wp2
 refine hK.out _ _ hHeld (fun hHeld=>hdN ?_)
 clear hK K
 refine hdT 4 (some 153) ?_
 refine wpAnyH_done (by kernel_rfl) ?_ 0
 have HBE:=Lib.hid hHeld.1
 have HUE:=Lib.hid hHeld.2
 clear hHeld HBD HUD HCR
 by_cases g3:yA y=sum
 rotate_left
 · have e3:(((yA y:Nat):Int) != ((sum:Nat):Int))=true:=by rw [bne_iff_ne]; omega
   obtain ⟨rfl,rfl⟩:wd=⟨#[]⟩∧ww=11:=by simpa using HF2.out.trans (if_pos g3)
   have HV:=Lib.hid (HD5.out.trans (if_pos (by decide)))
   clear g3
   go_wp2
   go_returns
   exact ⟨by rw [HV.out]; rfl,HUE.out⟩
 have e3:(((yA y:Nat):Int) != ((sum:Nat):Int))=false:=by rw [bne_eq_false_iff_eq]; omega
 obtain ⟨rfl,rfl⟩:wd=y∧ww=0:=by simpa using HF2.out.trans (if_neg (by simp [g3]))
 have HV:=Lib.hid (HD5.out.trans (if_neg (by simp)))
 have HWN:=Lib.hid (show IntKind.i64.wrap ((n:Int)+l)=(n:Int)+l from IntWalk.i64_in _ (by omega))
 have HWT:=Lib.hid (show IntKind.i64.wrap ((n:Int)+l+(tl:Nat))=(n:Int)+l+(tl:Nat) from IntWalk.i64_in _ (by have:=HTL.out; omega))
 clear HD5 HF2
 go_upto_region 36 with fail
 clear g3 e3
 refine wp_region_held_drew (S:=fun w'=>Blk w' g [.string hp,.int .i64 hm,.int .u32 (sum:Nat),.int .i64 l,.int .i64 wh,.int .i64 hk,.int .i64 md,.int .u32 (ht:Nat),.int .i64 pos] 26∧Upd [] w w') (by kernel_rfl) ⟨HBE.out.drew,HUE.out.drew⟩ (fun hHeld=>hdN ?_)
 refine hdT 0 (some 154) ?_; refine hdT 1 (some 155) ?_; refine hdT 2 (some 156) ?_
 refine hdT 3 (some 157) ?_ (hy:=by intro w0 hSw; have q0:=hSw.1.cell 3 rfl; go_simp; try with_reducible rfl)
 refine hdT 4 (some 158) ?_ (hy:=by intro w0 hSw; go_simp; all_goals rw [HWN.out]) (v := .int .i64 ((n:Int)+l)); refine hdT 5 (some 159) ?_
 refine hdT 6 (some 160) ?_ (hy:=by intro w0 hSw; go_simp; all_goals rw [HWT.out]) (v := .int .i64 ((n:Int)+l+(tl:Nat)))
 refine hdT 7 (some 4) ?_; refine hdT 8 (some 5) ?_; refine hdT 9 (some 6) ?_
 refine wpAnyH_done (by kernel_rfl) ?_ 0
 go_wp2
 go_returns
 exact ⟨by rw [HV.out]; rfl,hHeld.2⟩
end Go.Proofs.YtfkcdnaghndgfaaGreatDoor
namespace Go.Proofs.YtfkcdnaghndgfaaGreatDoor
open Go.RowKit
theorem qL {fn:Func} {p t:Tmp} (h:fn.results = #[.cell p 24,.tmp t]) (tmps:Array Value) (w:World) (g:Nat) (c0 c1 c2 c3:Value) (hp:tmps.getD p undef = .pointer (some ⟨g,0,none⟩)) (hB:Blk w g [c0,c1,c2,c3] 24) :
 (results fn tmps).run Tryz.prog w = .ok (.tuple #[.agg #[c0,c1,c2,c3],tmps.getD t undef]) w:=by
 have hA:=hB.all
 have hp2:tmps[p]?.getD undef = .pointer (some ⟨g,0,none⟩):=by rw [← hp]; simp
 simp [results,h,go_sem,hp2,hA]
theorem Blk.set4 {w:World} {b:Nat} {a0 a1 a2 a3:Value} {t:TypeId} (h:Blk w b [a0,a1,a2,a3] t) (v0 v1 v2 v3:Value) :
 Blk ((((w.setCell ⟨b,0,none⟩ v0).setCell ⟨b,1,none⟩ v1).setCell ⟨b,2,none⟩ v2).setCell ⟨b,3,none⟩ v3) b [v0,v1,v2,v3] t:=(((h.set 0 v0).set 1 v1).set 2 v2).set 3 v3
theorem Upd.set4 {fp:List Nat} {w0 w:World} {b:Nat} (h:Upd fp w0 w) (hb:b∈fp∨w0.heap.size≤b) (v0 v1 v2 v3:Value) :
 Upd fp w0 ((((w.setCell ⟨b,0,none⟩ v0).setCell ⟨b,1,none⟩ v1).setCell ⟨b,2,none⟩ v2).setCell ⟨b,3,none⟩ v3):=(((h.setCell hb v0).setCell hb v1).setCell hb v2).setCell hb v3
set_option maxRecDepth 100000 in
theorem zeV (r:RecD) (w:World) (h:r.Fits) (hl:0≤r.l∧r.l<2147483648) :
 Calls Tryz.prog 13 #[r.v] w fun e w'=>e = .returned (.int .i64 ((30+(zJ r.k r.p).length:Nat)+r.l))∧Upd [] w w':=by
 have hz:=jB r.k r.p
 have hp:=h.p
 have HS:=Lib.hid (fun z=>zcF r z h)
 have HW:Hid (IntKind.i64.wrap (((30+(zJ r.k r.p).length:Nat):Int)+r.l)=((30+(zJ r.k r.p).length:Nat):Int)+r.l):=Lib.hid (IntWalk.i64_in _ (by omega))
 generalize 30+(zJ r.k r.p).length=n at *
 obtain ⟨p,m,sum,l,wh,k,md,t,pos⟩:=r
 unfold RecD.v at HS ⊢
 dsimp only at HS HW hl ⊢
 have HB:=Lib.hid (Blk.new w [.string p,.int .i64 m,.int .u32 (sum:Nat),.int .i64 l,.int .i64 wh,.int .i64 k,.int .i64 md,.int .u32 (t:Nat),.int .i64 pos] 26)
 have HU:=Lib.hid ((Upd.refl [] w).alloc (.cells #[.string p,.int .i64 m,.int .u32 (sum:Nat),.int .i64 l,.int .i64 wh,.int .i64 k,.int .i64 md,.int .u32 (t:Nat),.int .i64 pos] 26))
 go_enter Tryz.func13,Tryz.ntmps13
 go_upto_region 1 with fail
 change Code.wp _ _ _ _ (w.alloc (.cells #[.string p,.int .i64 m,.int .u32 (sum:Nat),.int .i64 l,.int .i64 wh,.int .i64 k,.int .i64 md,.int .u32 (t:Nat),.int .i64 pos] 26))
 generalize w.alloc (.cells #[.string p,.int .i64 m,.int .u32 (sum:Nat),.int .i64 l,.int .i64 wh,.int .i64 k,.int .i64 md,.int .u32 (t:Nat),.int .i64 pos] 26)=w1 at *
 generalize w.heap.size=g at *
 refine wp_region_held_drew (S:=fun w'=>Blk w' g [.string p,.int .i64 m,.int .u32 (sum:Nat),.int .i64 l,.int .i64 wh,.int .i64 k,.int .i64 md,.int .u32 (t:Nat),.int .i64 pos] 26∧Upd [] w w') (by kernel_rfl) ⟨HB.out.drew,HU.out.drew⟩ (fun hHeld=>hdN ?_)
 refine hdT 0 (some 3) ?_ (hy:=by intro w0 hSw; have cA:=hSw.1.all; go_simp; try with_reducible rfl); refine hdT 2 (some 5) ?_
 refine hdT 3 (some 6) ?_ (hy:=by intro w0 hSw; have cA:=hSw.1.all; go_simp; try with_reducible rfl)
 refine hdO 1 (fun K hK=>?_)
 go_simp
 refine (HS.out _).mono ?_
 rintro e z1 ⟨rfl,hz1⟩
 go_wp2
 refine hK.out _ _ ⟨hHeld.1.upd hz1 (by simp),hHeld.2.then hz1⟩ (fun hHeld=>hdN ?_)
 clear hK K
 refine hdT 4 (some 7) ?_ (hy:=by intro w0 hSw; clear hSw; go_simp; all_goals rw [HW.out]) (v := .int .i64 ((n:Nat)+l)); refine hdT 5 (some 2) ?_
 refine wpAnyH_done (by kernel_rfl) ?_ 0
 go_wp2
 go_returns
 exact ⟨rfl,hHeld.2⟩
def Nd2 (w0:World) (g:Nat) (p:ByteArray) (m:Int) (sum:Nat) (l wh k md:Int) (t:Nat) (pos:Int) (w:World):Prop:=w0.heap.size≤g∧Blk w g [.string p,.int .i64 m,.int .u32 (sum:Nat),.int .i64 l,.int .i64 wh,.int .i64 k,.int .i64 md,.int .u32 (t:Nat),.int .i64 pos] 26∧Blk w (g+1) [.int .i64 0,.int .i64 0,.int .u32 0,.string .empty] 24∧Upd [] w0 w
theorem Nd2.upd {w0 w w':World} {g:Nat} {p:ByteArray} {m:Int} {sum:Nat} {l wh k md:Int} {t:Nat} {pos:Int} {fp:List Nat} (h:Nd2 w0 g p m sum l wh k md t pos w) (hu:Upd fp w w') (hf : ∀ j,j∈fp→g+1<j):Nd2 w0 g p m sum l wh k md t pos w' :=
 ⟨h.1,h.2.1.upd hu (fun hm=>by have:=hf _ hm; omega),h.2.2.1.upd hu (fun hm=>by have:=hf _ hm; omega),h.2.2.2.trans hu (fun j hj => .inr (by have:=hf j hj; have:=h.1; omega))⟩
set_option maxRecDepth 100000 in
set_option maxHeartbeats 3200000 in
theorem zd4 (s:ByteArray) (r:RecD) (w:World) (hs:s.size≤1000000) (hr:r.Fits) :
 Calls Tryz.prog 16 #[.string s,r.v] w fun e w'=>e = .returned (zb1 (XP s r))∧Upd [] w w':=by
 have HD0:=fun z=>zaj s r z hs hr
 have HQ:Hid (XP s r=if (xE s r).2.2≠0 then (0,0,0,⟨#[]⟩,(xE s r).2.2) else (r.k,r.md,if r.k=1 then r.t else 0,(xE s r).1,0)):=Lib.hid rfl
 unfold zaI at HD0
 generalize XP s r=NQ at *
 generalize xE s r=DP at *
 obtain ⟨D,n,c⟩:=DP
 obtain ⟨p,m,sum,l,wh,k,md,t,pos⟩:=r
 unfold RecD.v at HD0 ⊢
 dsimp only at HD0 HQ ⊢
 have HD:=Lib.hid HD0
 clear HD0
 have S:Hid (Nd2 w w.heap.size p m sum l wh k md t pos ((w.alloc (.cells #[.string p,.int .i64 m,.int .u32 (sum:Nat),.int .i64 l,.int .i64 wh,.int .i64 k,.int .i64 md,.int .u32 (t:Nat),.int .i64 pos] 26)).alloc (.cells #[.int .i64 0,.int .i64 0,.int .u32 0,.string .empty] 24))):=Lib.hid ⟨Nat.le_refl _,(Blk.new w [.string p,.int .i64 m,.int .u32 (sum:Nat),.int .i64 l,.int .i64 wh,.int .i64 k,.int .i64 md,.int .u32 (t:Nat),.int .i64 pos] 26).alloc _,by have h:=Blk.new (w.alloc (.cells #[.string p,.int .i64 m,.int .u32 (sum:Nat),.int .i64 l,.int .i64 wh,.int .i64 k,.int .i64 md,.int .u32 (t:Nat),.int .i64 pos] 26)) [.int .i64 0,.int .i64 0,.int .u32 0,.string .empty] 24; simpa using h,((Upd.refl [] w).alloc _).alloc _⟩
 go_enter Tryz.func16,Tryz.ntmps16
 go_upto_region 1 with fail
 change Code.wp _ _ _ _ ((w.alloc (.cells #[.string p,.int .i64 m,.int .u32 (sum:Nat),.int .i64 l,.int .i64 wh,.int .i64 k,.int .i64 md,.int .u32 (t:Nat),.int .i64 pos] 26)).alloc (.cells #[.int .i64 0,.int .i64 0,.int .u32 0,.string .empty] 24))
 generalize (w.alloc (.cells #[.string p,.int .i64 m,.int .u32 (sum:Nat),.int .i64 l,.int .i64 wh,.int .i64 k,.int .i64 md,.int .u32 (t:Nat),.int .i64 pos] 26)).alloc (.cells #[.int .i64 0,.int .i64 0,.int .u32 0,.string .empty] 24)=w1 at *
 generalize w.heap.size=g at *
 have cA:=S.out.2.1.all
 go_wp2_with fail
 refine (HD.out _).mono ?_
 rintro e w2 ⟨rfl,hu⟩
 have S:=Lib.hid (S.out.upd hu (by simp))
 clear hu cA HD
 have cA:=S.out.2.1.all
 by_cases h0:c=0
 rotate_left
 · have e1:(((c:Nat):Int) != 0)=true:=by rw [bne_iff_ne]; omega
   have HV:=Lib.hid (HQ.out.trans (if_pos h0))
   clear h0
   have qA:=S.out.2.2.1.all
   have fA:=S.out.2.2.1.frz
   go_wp2_with fail
   (try simp only [Exit.inBlock,Exit.then]); refine bodyPost_ret (qL rfl _ _ (g+1) _ _ _ _ rfl (Blk.set4 S.out.2.2.1 _ _ _ _)) rfl ⟨by rw [HV.out]; rfl,Upd.set4 S.out.2.2.2 (.inr (by have:=S.out.1; omega)) _ _ _ _⟩
 have HV:=Lib.hid (HQ.out.trans (if_neg (by simp [h0])))
 subst h0
 clear HQ
 have HC:=Lib.hid (Blk.new w2 [.int .i64 k,.int .i64 md,.int .u32 0,.string D] 24)
 have hgc:g+1<w2.heap.size:=Blk.lt S.out.2.2.1
 have S:=Lib.hid (S.out.upd ((Upd.refl [] w2).alloc (.cells #[.int .i64 k,.int .i64 md,.int .u32 0,.string D] 24)) (by simp))
 go_upto_region 5 with fail
 change Code.wp _ _ _ _ (w2.alloc (.cells #[.int .i64 k,.int .i64 md,.int .u32 0,.string D] 24))
 clear cA
 generalize w2.alloc (.cells #[.int .i64 k,.int .i64 md,.int .u32 0,.string D] 24)=w3 at *
 generalize w2.heap.size=c at *
 have cA:=S.out.2.1.all
 have dA:=HC.out.all
 have eA:=HC.out.frz
 by_cases h1:k=1
 · subst h1
   have HC2:=Lib.hid (HC.out.set 2 (.int .u32 (t:Nat)))
   have S2:=Lib.hid (S.out.upd ((Upd.refl [c] w3).setCell (p:=⟨c,2,none⟩) (.inl (by simp)) (.int .u32 (t:Nat))) (by simp; omega))
   go_upto_region 7 with fail
   clear cA dA eA
   generalize w3.setCell ⟨c,2,none⟩ (.int .u32 (t:Nat))=w4 at *
   have dA:=HC2.out.all
   have qA:=S2.out.2.2.1.all
   have fA:=S2.out.2.2.1.frz
   go_wp2_with fail
   (try simp only [Exit.inBlock,Exit.then]); refine bodyPost_ret (qL rfl _ _ (g+1) _ _ _ _ rfl (Blk.set4 S2.out.2.2.1 _ _ _ _)) rfl ⟨by rw [HV.out]; rfl,Upd.set4 S2.out.2.2.2 (.inr (by have:=S2.out.1; omega)) _ _ _ _⟩
 · have e1:(k==1)=false:=by rw [beq_eq_false_iff_ne]; exact h1
   have qA:=S.out.2.2.1.all
   have fA:=S.out.2.2.1.frz
   go_wp2_with fail
   (try simp only [Exit.inBlock,Exit.then]); refine bodyPost_ret (qL rfl _ _ (g+1) _ _ _ _ rfl (Blk.set4 S.out.2.2.1 _ _ _ _)) rfl ⟨by rw [HV.out,if_neg h1]; rfl,Upd.set4 S.out.2.2.2 (.inr (by have:=S.out.1; omega)) _ _ _ _⟩
set_option maxRecDepth 100000 in
set_option maxHeartbeats 3200000 in
theorem zag (s:ByteArray) (r:RecD) (w:World) (hs:s.size≤1000000) (hr:r.Fits) :
 Calls Tryz.prog 12 #[.string s,r.v] w fun e w'=>e = .returned (zb1 (XP s r))∧Upd [] w w':=by
 have HD0:=fun z=>Vs s r z hs hr
 have HQ:Hid (XP s r=if (xE s r).2.2≠0 then (0,0,0,⟨#[]⟩,(xE s r).2.2) else (r.k,r.md,if r.k=1 then r.t else 0,(xE s r).1,0)):=Lib.hid rfl
 have HDI:=Lib.hid (fun h=>zel (s:=s) (r:=r) h)
 unfold zaI at HD0
 generalize XP s r=NQ at *
 generalize xE s r=DP at *
 obtain ⟨D,n,c⟩:=DP
 obtain ⟨p,m,sum,l,wh,k,md,t,pos⟩:=r
 unfold RecD.v at HD0 ⊢
 dsimp only at HD0 HQ HDI ⊢
 have HD:=Lib.hid HD0
 clear HD0
 have S:Hid (Nd2 w w.heap.size p m sum l wh k md t pos ((w.alloc (.cells #[.string p,.int .i64 m,.int .u32 (sum:Nat),.int .i64 l,.int .i64 wh,.int .i64 k,.int .i64 md,.int .u32 (t:Nat),.int .i64 pos] 26)).alloc (.cells #[.int .i64 0,.int .i64 0,.int .u32 0,.string .empty] 24))):=Lib.hid ⟨Nat.le_refl _,(Blk.new w [.string p,.int .i64 m,.int .u32 (sum:Nat),.int .i64 l,.int .i64 wh,.int .i64 k,.int .i64 md,.int .u32 (t:Nat),.int .i64 pos] 26).alloc _,by have h:=Blk.new (w.alloc (.cells #[.string p,.int .i64 m,.int .u32 (sum:Nat),.int .i64 l,.int .i64 wh,.int .i64 k,.int .i64 md,.int .u32 (t:Nat),.int .i64 pos] 26)) [.int .i64 0,.int .i64 0,.int .u32 0,.string .empty] 24; simpa using h,((Upd.refl [] w).alloc _).alloc _⟩
 go_enter Tryz.func12,Tryz.ntmps12
 go_upto_region 1 with fail
 change Code.wp _ _ _ _ ((w.alloc (.cells #[.string p,.int .i64 m,.int .u32 (sum:Nat),.int .i64 l,.int .i64 wh,.int .i64 k,.int .i64 md,.int .u32 (t:Nat),.int .i64 pos] 26)).alloc (.cells #[.int .i64 0,.int .i64 0,.int .u32 0,.string .empty] 24))
 generalize (w.alloc (.cells #[.string p,.int .i64 m,.int .u32 (sum:Nat),.int .i64 l,.int .i64 wh,.int .i64 k,.int .i64 md,.int .u32 (t:Nat),.int .i64 pos] 26)).alloc (.cells #[.int .i64 0,.int .i64 0,.int .u32 0,.string .empty] 24)=w1 at *
 generalize w.heap.size=g at *
 have cA:=S.out.2.1.all
 go_wp2_with fail
 refine (HD.out _).mono ?_
 rintro e w2 ⟨rfl,hu⟩
 have S:=Lib.hid (S.out.upd hu (by simp))
 clear hu cA HD
 have cA:=S.out.2.1.all
 have qA:=S.out.2.2.1.all
 have fA:=S.out.2.2.1.frz
 by_cases h0:c=0
 rotate_left
 · have e1:(((c:Nat):Int) != 0)=true:=by rw [bne_iff_ne]; omega
   have HV:=Lib.hid (HQ.out.trans (if_pos h0))
   clear h0
   go_wp2_with fail
   (try simp only [Exit.inBlock,Exit.then]); refine bodyPost_ret (qL rfl _ _ (g+1) _ _ _ _ rfl (Blk.set4 S.out.2.2.1 _ _ _ _)) rfl ⟨by rw [HV.out]; rfl,Upd.set4 S.out.2.2.2 (.inr (by have:=S.out.1; omega)) _ _ _ _⟩
 have HV:=Lib.hid (HQ.out.trans (if_neg (by simp [h0])))
 have hk:=HDI.out h0
 subst h0
 clear HQ HDI
 rcases hk with rfl | ⟨rfl,hD⟩
 · go_wp2_with fail
   (try simp only [Exit.inBlock,Exit.then]); refine bodyPost_ret (qL rfl _ _ (g+1) _ _ _ _ rfl (Blk.set4 S.out.2.2.1 _ _ _ _)) rfl ⟨by rw [HV.out]; rfl,Upd.set4 S.out.2.2.2 (.inr (by have:=S.out.1; omega)) _ _ _ _⟩
 · have HDE:=Lib.hid hD
   clear hD
   go_wp2_with fail
   (try simp only [Exit.inBlock,Exit.then]); refine bodyPost_ret (qL rfl _ _ (g+1) _ _ _ _ rfl (Blk.set4 S.out.2.2.1 _ _ _ _)) rfl ⟨by rw [HV.out,HDE.out]; rfl,Upd.set4 S.out.2.2.2 (.inr (by have:=S.out.1; omega)) _ _ _ _⟩
end Go.Proofs.YtfkcdnaghndgfaaGreatDoor
