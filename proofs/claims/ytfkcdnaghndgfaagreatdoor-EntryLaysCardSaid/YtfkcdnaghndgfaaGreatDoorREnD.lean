/- Package swingleref22: Data: its walk. -/
import Derived.Deep.CutBlock
import Derived.Test.YtfkcdnaghndgfaaGreatDoorQAN
import Derived.Test.YtfkcdnaghndgfaaGreatDoorQAR
import Derived.Test.YtfkcdnaghndgfaaGreatDoorQAM
import Derived.Test.YtfkcdnaghndgfaaGreatDoorQAS
import Derived.Test.YtfkcdnaghndgfaaGreatDoorROf
import Derived.Test.YtfkcdnaghndgfaaGreatDoorQAO
set_option linter.unusedVariables false
set_option linter.unusedSimpArgs false
set_option linter.unusedSectionVars false
namespace Go.Proofs.YtfkcdnaghndgfaaGreatDoor
open Go.RowKit
theorem zef (d:ByteArray) (h:d.size=0):xa d=0:=by
 have e:za d=[]:=List.eq_nil_of_length_eq_zero (by rw [zc]; exact h)
 unfold xa
 rw [e]
 rfl
set_option maxRecDepth 100000 in
set_option maxHeartbeats 6400000 in
theorem zex (s:ByteArray) (r:RecD) (w:World) (hsz:s.size≤1000000) (hr:r.Fits) :
 Calls Tryz.prog 15 #[.string s,r.v] w fun e w'=>e = .returned (ziC (qt s r))∧Upd [] w w':=by
 have HRT:=Lib.hid (fun z=>Ku r z hr)
 have HRD0:=fun z=>Kb s r.pos z hsz
 have HRP:=Lib.hid (zdK (s:=s) (a:=r.pos))
 have HBD:=Lib.hid (fun h=>VR (r:=r) h)
 have HTA0:=fun z=>zen s (r.pos+(zp s r.pos).2.1+r.l) z hsz
 have HOF0:=fun z h=>ziq (s.extract (r.pos+(zp s r.pos).2.1).toNat (r.pos+(zp s r.pos).2.1+r.l).toNat) r.wh z h
 rw [zcY] at HOF0
 have HTL:=Lib.hid (zfW s (zp s r.pos).1 r (r.pos+(zp s r.pos).2.1) (zp s r.pos).2.2.1)
 have HDD:Hid (qt s r=if yt r≠0 then (⟨#[]⟩,0,1)
  else if (zp s r.pos).2.2.2≠0 then (⟨#[]⟩,0,(zp s r.pos).2.2.2)
  else if XA (zp s r.pos).1 r=false then (⟨#[]⟩,0,2)
  else if (vz s (zp s r.pos).1 r (r.pos+(zp s r.pos).2.1) (zp s r.pos).2.2.1).2≠0 then (⟨#[]⟩,0,(vz s (zp s r.pos).1 r (r.pos+(zp s r.pos).2.1) (zp s r.pos).2.2.1).2)
  else if (s.size:Int)-(r.pos+(zp s r.pos).2.1)<r.l then (⟨#[]⟩,0,3)
  else if (qB (s.extract (r.pos+(zp s r.pos).2.1).toNat (r.pos+(zp s r.pos).2.1+r.l).toNat) r).2≠0 then (⟨#[]⟩,0,(qB (s.extract (r.pos+(zp s r.pos).2.1).toNat (r.pos+(zp s r.pos).2.1+r.l).toNat) r).2)
  else ((qB (s.extract (r.pos+(zp s r.pos).2.1).toNat (r.pos+(zp s r.pos).2.1+r.l).toNat) r).1,(zp s r.pos).2.1+r.l+(vz s (zp s r.pos).1 r (r.pos+(zp s r.pos).2.1) (zp s r.pos).2.2.1).1,0)):=Lib.hid rfl
 have HAE:Hid (XA (zp s r.pos).1 r=decide ((zp s r.pos).1.p=r.p∧(zp s r.pos).1.m=r.m∧(zp s r.pos).1.k=r.k∧(zp s r.pos).1.t=r.t∧(zp s r.pos).1.pos=r.pos)):=Lib.hid rfl
 have HTE:Hid (vz s (zp s r.pos).1 r (r.pos+(zp s r.pos).2.1) (zp s r.pos).2.2.1=if (zp s r.pos).2.2.1=true then (if (qT s (r.pos+(zp s r.pos).2.1+r.l)).2.2.2.2=false then (0,3)
  else if (qT s (r.pos+(zp s r.pos).2.1+r.l)).1≠r.sum∨((qT s (r.pos+(zp s r.pos).2.1+r.l)).2.1:Int)≠r.l∨((qT s (r.pos+(zp s r.pos).2.1+r.l)).2.2.1:Int)≠r.wh then (0,2) else ((qT s (r.pos+(zp s r.pos).2.1+r.l)).2.2.2.1,0))
  else if (zp s r.pos).1.sum≠r.sum∨(zp s r.pos).1.l≠r.l∨(zp s r.pos).1.wh≠r.wh then (0,2) else (0,0)):=Lib.hid rfl
 have HWE:Hid (qB (s.extract (r.pos+(zp s r.pos).2.1).toNat (r.pos+(zp s r.pos).2.1+r.l).toNat) r=if r.m=8 then (if (ofT (ofP (s.extract (r.pos+(zp s r.pos).2.1).toNat (r.pos+(zp s r.pos).2.1+r.l).toNat) r.wh)).2.2≠0 then (⟨#[]⟩,(ofT (ofP (s.extract (r.pos+(zp s r.pos).2.1).toNat (r.pos+(zp s r.pos).2.1+r.l).toNat) r.wh)).2.2) else if (ofT (ofP (s.extract (r.pos+(zp s r.pos).2.1).toNat (r.pos+(zp s r.pos).2.1+r.l).toNat) r.wh)).2.1≠(s.extract (r.pos+(zp s r.pos).2.1).toNat (r.pos+(zp s r.pos).2.1+r.l).toNat).size then (⟨#[]⟩,2) else Yk (ofT (ofP (s.extract (r.pos+(zp s r.pos).2.1).toNat (r.pos+(zp s r.pos).2.1+r.l).toNat) r.wh)).1 r) else Yk (s.extract (r.pos+(zp s r.pos).2.1).toNat (r.pos+(zp s r.pos).2.1+r.l).toNat) r):=Lib.hid rfl
 have HFF:Hid (∀ y:ByteArray,Yk y r=if 65000<r.wh then (⟨#[]⟩,4) else if (y.size:Int)≠r.wh then (⟨#[]⟩,2) else if r.k=1∧xa y≠r.sum then (⟨#[]⟩,11) else (y,0)):=Lib.hid (fun _=>rfl)
 generalize qt s r=DP at *
 generalize yt r=E at *
 generalize zp s r.pos=Q at *
 obtain ⟨h,n,lt,e0⟩:=Q
 dsimp only at HRD0 HTA0 HOF0 HDD HRP HAE HTE HWE HTL
 generalize XA h r=A at *
 generalize vz s h r (r.pos+(n:Nat)) lt=TP at *
 obtain ⟨tl,tw⟩:=TP
 generalize hDg:s.extract (r.pos+(n:Nat)).toNat (r.pos+(n:Nat)+r.l).toNat=D at *
 generalize qB D r=WP at *
 obtain ⟨wd,ww⟩:=WP
 generalize ofT (ofP D r.wh)=OT at *
 obtain ⟨x,u,c0⟩:=OT
 generalize qT s (r.pos+(n:Nat)+r.l)=TT at *
 obtain ⟨x1,x2,x3,x4,x5⟩:=TT
 unfold ziP at HTA0
 obtain ⟨hp,hm,hs,hl,hw,hk,hd,ht,ho⟩:=h
 obtain ⟨p,m,sum,l,wh,k,md,t,pos⟩:=r
 unfold RecD.v at HRT
 unfold zhc RecD.v at HRD0
 dsimp only at HRT HRD0 HTA0 HOF0 HRP HBD HDD hDg HAE HTE HWE HFF HTL
 have HRD:=Lib.hid HRD0
 have HTA:=Lib.hid HTA0
 have HOF:=Lib.hid HOF0
 have HDE:=Lib.hid hDg
 clear HRD0 HTA0 HOF0 hDg hr
 unfold RecD.v
 dsimp only
 have HB:=Lib.hid (Blk.new w [.string p,.int .i64 m,.int .u32 (sum:Nat),.int .i64 l,.int .i64 wh,.int .i64 k,.int .i64 md,.int .u32 (t:Nat),.int .i64 pos] 26)
 have HU:=Lib.hid ((Upd.refl [] w).alloc (.cells #[.string p,.int .i64 m,.int .u32 (sum:Nat),.int .i64 l,.int .i64 wh,.int .i64 k,.int .i64 md,.int .u32 (t:Nat),.int .i64 pos] 26))
 go_enter Tryz.func15,Tryz.ntmps15
 go_upto_region 1 with fail
 change Code.wp _ _ _ _ (w.alloc (.cells #[.string p,.int .i64 m,.int .u32 (sum:Nat),.int .i64 l,.int .i64 wh,.int .i64 k,.int .i64 md,.int .u32 (t:Nat),.int .i64 pos] 26))
 generalize w.alloc (.cells #[.string p,.int .i64 m,.int .u32 (sum:Nat),.int .i64 l,.int .i64 wh,.int .i64 k,.int .i64 md,.int .u32 (t:Nat),.int .i64 pos] 26)=w1 at *
 generalize hge:w.heap.size=g at *
 have HWG:=Lib.hid (show w.heap.size≤g by omega)
 clear hge
 have kA:=HB.out.all
 have k3:=HB.out.cell 3 rfl
 have k4:=HB.out.cell 4 rfl
 have k8:=HB.out.cell 8 rfl
 go_wp2_with fail
 refine (HRT.out _).mono ?_
 rintro e w2 ⟨rfl,hu2⟩
 have HB2:=Lib.hid (HB.out.upd hu2 (by simp))
 have HU2:=Lib.hid (HU.out.then hu2)
 clear kA k3 k4 k8 hu2 HB HU HRT
 by_cases h0:E=0
 rotate_left
 · have e1:(((E:Nat):Int) != 0)=true:=by rw [bne_iff_ne]; omega
   have HV:=Lib.hid (HDD.out.trans (if_pos h0))
   clear h0
   go_wp2
   go_returns
   exact ⟨by rw [HV.out]; rfl,HU2.out⟩
 have HD1:=Lib.hid (HDD.out.trans (if_neg (by simp [h0])))
 obtain ⟨hb1,hb2,hb3,hb4⟩:=HBD.out h0
 have HBK:=Lib.hid hb4
 subst h0
 clear HDD HBD hb4
 have k8:=HB2.out.cell 8 rfl
 go_wp2_with fail
 refine (HRD.out _).mono ?_
 rintro e w3 ⟨rfl,hu3⟩
 have HB3:=Lib.hid ((HB2.out.upd hu3 (by simp)).alloc (.cells #[.string hp,.int .i64 hm,.int .u32 (hs:Nat),.int .i64 hl,.int .i64 hw,.int .i64 hk,.int .i64 hd,.int .u32 (ht:Nat),.int .i64 ho] 26))
 have HU3:=Lib.hid ((HU2.out.then hu3).alloc (.cells #[.string hp,.int .i64 hm,.int .u32 (hs:Nat),.int .i64 hl,.int .i64 hw,.int .i64 hk,.int .i64 hd,.int .u32 (ht:Nat),.int .i64 ho] 26))
 have HC3:=Lib.hid (Blk.new w3 [.string hp,.int .i64 hm,.int .u32 (hs:Nat),.int .i64 hl,.int .i64 hw,.int .i64 hk,.int .i64 hd,.int .u32 (ht:Nat),.int .i64 ho] 26)
 have HGC:Hid (g≠w3.heap.size∧w.heap.size≤w3.heap.size):=Lib.hid ⟨by have:=(HB2.out.upd hu3 (by simp)).lt; omega,by have:=(HU2.out.then hu3).size; omega⟩
 clear k8 hu3 HB2 HU2 HRD
 go_upto_region 4 with fail
 change Code.wp _ _ _ _ (w3.alloc (.cells #[.string hp,.int .i64 hm,.int .u32 (hs:Nat),.int .i64 hl,.int .i64 hw,.int .i64 hk,.int .i64 hd,.int .u32 (ht:Nat),.int .i64 ho] 26))
 generalize w3.alloc (.cells #[.string hp,.int .i64 hm,.int .u32 (hs:Nat),.int .i64 hl,.int .i64 hw,.int .i64 hk,.int .i64 hd,.int .u32 (ht:Nat),.int .i64 ho] 26)=w4 at *
 generalize w3.heap.size=c at *
 by_cases h1:e0=0
 rotate_left
 · have e1:(((e0:Nat):Int) != 0)=true:=by rw [bne_iff_ne]; omega
   have HV:=Lib.hid (HD1.out.trans (if_pos h1))
   clear h1
   go_wp2
   go_returns
   exact ⟨by rw [HV.out]; rfl,HU3.out⟩
 have HD2:=Lib.hid (HD1.out.trans (if_neg (by simp [h1])))
 obtain ⟨hp1,hp2,hp3,hp4⟩:=HRP.out h1
 subst h1
 clear HD1 HRP
 obtain ⟨f,hf⟩ : ∃ f,pos+(n:Int)=f:=⟨_,rfl⟩
 have hw1:IntKind.i64.wrap (pos+(n:Int))=f:=by rw [← hf]; exact IntWalk.i64_in _ (by omega)
 rw [hf] at HTA HD2 HDE
 have hf0:0≤f∧f≤(s.size:Int):=by omega
 have HPO:=Lib.hid hp1
 clear hf hp1 hp4
 have kA:=HB3.out.all
 have k3:=HB3.out.cell 3 rfl
 have k4:=HB3.out.cell 4 rfl
 have k8:=HB3.out.cell 8 rfl
 have aA:=HC3.out.all
 by_cases i1:hp=p
 rotate_left
 · have e1:(hp.toList==p.toList)=false:=XT i1
   have e2:(hp.toList != p.toList)=true:=by rw [bne,e1]; rfl
   have HV:=Lib.hid (HD2.out.trans (if_pos (by rw [HAE.out]; simp [i1])))
   clear i1
   go_wp2
   go_returns
   exact ⟨by rw [HV.out]; rfl,HU3.out⟩
 by_cases i2:hk=k
 rotate_left
 · have e1:(hk != k)=true:=by rw [bne_iff_ne]; exact i2
   have HV:=Lib.hid (HD2.out.trans (if_pos (by rw [HAE.out]; simp [i2])))
   subst i1
   clear i2
   go_wp2
   go_returns
   exact ⟨by rw [HV.out]; rfl,HU3.out⟩
 by_cases i3:hm=m
 rotate_left
 · have e1:(hm != m)=true:=by rw [bne_iff_ne]; exact i3
   have HV:=Lib.hid (HD2.out.trans (if_pos (by rw [HAE.out]; simp [i3])))
   subst i1 i2
   clear i3
   go_wp2
   go_returns
   exact ⟨by rw [HV.out]; rfl,HU3.out⟩
 by_cases i4:ht=t
 rotate_left
 · have e1:(((ht:Nat):Int) != ((t:Nat):Int))=true:=by rw [bne_iff_ne]; omega
   have HV:=Lib.hid (HD2.out.trans (if_pos (by rw [HAE.out]; simp [i4])))
   subst i1 i2 i3
   clear i4
   go_wp2
   go_returns
   exact ⟨by rw [HV.out]; rfl,HU3.out⟩
 have HD3:=Lib.hid (HD2.out.trans (if_neg (by rw [HAE.out]; simp [i1,i2,i3,i4,HPO.out])))
 subst i1 i2 i3 i4
 clear HD2 HAE HPO
 have hw5:IntKind.i64.wrap (f+l)=f+l:=IntWalk.i64_in _ (by omega)
 go_upto_if 67 with fail
 clear kA k3 k4 k8 aA hw1
 go_cut [12] (fun s12 wx => ∃ (z1 z4:Nat) (z2 z3:Int),s12 = .int .i64 (z4:Nat)∧Blk wx c [.string hp,.int .i64 hm,.int .u32 (z1:Nat),.int .i64 z2,.int .i64 z3,.int .i64 hk,.int .i64 hd,.int .u32 (ht:Nat),.int .i64 ho] 26∧Blk wx g [.string hp,.int .i64 hm,.int .u32 (sum:Nat),.int .i64 l,.int .i64 wh,.int .i64 hk,.int .i64 md,.int .u32 (ht:Nat),.int .i64 pos] 26∧Upd [] w wx∧Hid ((tl,tw)=if z1≠sum∨z2≠l∨z3≠wh then (0,2) else (z4,0)))
 case first =>
  cases lt with
  | false =>
    have HF:=Lib.hid (HTE.out.trans (if_neg (by simp)))
    go_wp2
    go_meet
    exact ⟨hs,0,hl,hw,rfl,HC3.out,HB3.out,HU3.out,HF⟩
  | true =>
    have HF:=Lib.hid (HTE.out.trans (if_pos rfl))
    have k3:=HB3.out.cell 3 rfl
    go_wp2_with fail
    refine (HTA.out _).mono ?_
    rintro e w5 ⟨rfl,hu5⟩
    have HB4:=Lib.hid (HB3.out.upd hu5 (by simp))
    have HC4:=Lib.hid (HC3.out.upd hu5 (by simp))
    have HU4:=Lib.hid (HU3.out.then hu5)
    clear k3 hu5 HB3 HC3 HU3 HTA HTE
    cases x5 with
    | false =>
      have hT:=HF.out.trans (if_pos rfl)
      obtain ⟨rfl,rfl⟩:tl=0∧tw=3:=by simpa using hT
      have HV:=Lib.hid (HD3.out.trans (if_pos (by decide)))
      clear hT HF
      go_wp2
      go_returns
      exact ⟨by rw [HV.out]; rfl,HU4.out⟩
    | true =>
      have HF2:=Lib.hid (HF.out.trans (if_neg (by simp)))
      have HC5:=Lib.hid (((HC4.out.set 2 (.int .u32 (x1:Nat))).set 3 (.int .i64 (x2:Nat))).set 4 (.int .i64 (x3:Nat)))
      have HB5:=Lib.hid (((HB4.out.setFar (a:=⟨c,2,none⟩) (.int .u32 (x1:Nat)) HGC.out.1).setFar (a:=⟨c,3,none⟩) (.int .i64 (x2:Nat)) HGC.out.1).setFar (a:=⟨c,4,none⟩) (.int .i64 (x3:Nat)) HGC.out.1)
      have HU5:=Lib.hid (((HU4.out.setCell (p:=⟨c,2,none⟩) (.inr HGC.out.2) (.int .u32 (x1:Nat))).setCell (p:=⟨c,3,none⟩) (.inr HGC.out.2) (.int .i64 (x2:Nat))).setCell (p:=⟨c,4,none⟩) (.inr HGC.out.2) (.int .i64 (x3:Nat)))
      have aA:=HC4.out.all
      have fA:=HC4.out.frz
      go_wp2
      go_meet
      exact ⟨x1,x4,x2,x3,rfl,HC5.out,HB5.out,HU5.out,HF2⟩
 case rest =>
 obtain ⟨z1,z4,z2,z3,rfl,hC,hB,hU,HTZ⟩:=hcut
 have HBA:=Lib.hid hB
 have HUA:=Lib.hid hU
 have aA:=hC.all
 have kA:=hB.all
 have k3:=hB.cell 3 rfl
 have k4:=hB.cell 4 rfl
 clear hC hB hU HB3 HU3 HC3 HTE HTA
 by_cases j1:z1=sum
 rotate_left
 · have e1:(((z1:Nat):Int) != ((sum:Nat):Int))=true:=by rw [bne_iff_ne]; omega
   obtain ⟨rfl,rfl⟩:tl=0∧tw=2:=by simpa using HTZ.out.trans (if_pos (.inl j1))
   have HV:=Lib.hid (HD3.out.trans (if_pos (by decide)))
   clear j1
   go_wp2
   go_returns
   exact ⟨by rw [HV.out]; rfl,HUA.out⟩
 have e1:(((z1:Nat):Int) != ((sum:Nat):Int))=false:=by rw [bne_eq_false_iff_eq]; omega
 by_cases j2:z2=l
 rotate_left
 · have e2:(z2 != l)=true:=by rw [bne_iff_ne]; exact j2
   obtain ⟨rfl,rfl⟩:tl=0∧tw=2:=by simpa using HTZ.out.trans (if_pos (.inr (.inl j2)))
   have HV:=Lib.hid (HD3.out.trans (if_pos (by decide)))
   clear j1 j2
   go_wp2
   go_returns
   exact ⟨by rw [HV.out]; rfl,HUA.out⟩
 have e2:(z2 != l)=false:=by rw [bne_eq_false_iff_eq]; exact j2
 by_cases j3:z3=wh
 rotate_left
 · have e3:(z3 != wh)=true:=by rw [bne_iff_ne]; exact j3
   obtain ⟨rfl,rfl⟩:tl=0∧tw=2:=by simpa using HTZ.out.trans (if_pos (.inr (.inr j3)))
   have HV:=Lib.hid (HD3.out.trans (if_pos (by decide)))
   clear j1 j2 j3
   go_wp2
   go_returns
   exact ⟨by rw [HV.out]; rfl,HUA.out⟩
 have e3:(z3 != wh)=false:=by rw [bne_eq_false_iff_eq]; exact j3
 obtain ⟨rfl,rfl⟩:tl=z4∧tw=0:=by simpa using HTZ.out.trans (if_neg (by simp [j1,j2,j3]))
 have HD4:=Lib.hid (HD3.out.trans (if_neg (by simp)))
 clear j1 j2 j3 HD3 HTZ
 have hw2:IntKind.i64.wrap ((s.size:Int)-f)=(s.size:Int)-f:=IntWalk.i64_in _ (by omega)
 by_cases h3:(s.size:Int)-f<l
 · have HV:=Lib.hid (HD4.out.trans (if_pos h3))
   go_wp2
   go_returns
   exact ⟨by rw [HV.out]; rfl,HUA.out⟩
 have HD5:=Lib.hid (HD4.out.trans (if_neg h3))
 have hds:D.size≤1000000:=by rw [← HDE.out,ByteArray.size_extract]; omega
 have hfl:f+l≤(s.size:Int):=by omega
 have hff:f≤f+l:=by omega
 have hf1:0≤f+l:=by omega
 clear HD4
 go_upto_region 22 with fail
 clear aA kA k4 e1 e2 e3 h3 hw2
 generalize wc=wA at *
 go_cut [18] (fun s18 wx=>s18 = .string D∧wx=wA)
 case first =>
  have HSL:=HDE.out
  go_wp2
  go_meet
  exact ⟨by first | rfl | (rw [HSL]),rfl⟩
 case rest =>
 obtain ⟨rfl,rfl⟩:=hcut
 clear k3
 have kA:=HBA.out.all
 have k4:=HBA.out.cell 4 rfl
 go_upto_if 124 with fail
 go_cut [18] (fun s18 wx => ∃ y:ByteArray,s18 = .string y∧Blk wx g [.string hp,.int .i64 hm,.int .u32 (sum:Nat),.int .i64 l,.int .i64 wh,.int .i64 hk,.int .i64 md,.int .u32 (ht:Nat),.int .i64 pos] 26∧Upd [] w wx∧Hid ((wd,ww)=Yk y ⟨hp,hm,sum,l,wh,hk,md,ht,pos⟩))
 case first =>
  by_cases hm8:hm=8
  · subst hm8
    have HW2:=Lib.hid (HWE.out.trans (if_pos rfl))
    have HOF2:=Lib.hid (fun z=>HOF.out z (by omega))
    clear HWE HOF
    go_wp2_with fail
    refine (HOF2.out _).mono ?_
    rintro e w7 ⟨rfl,hu7⟩
    have HB7:=Lib.hid (HBA.out.upd hu7 (by simp))
    have HU7:=Lib.hid (HUA.out.then hu7)
    clear kA k4 hu7 HBA HUA HOF2
    by_cases hc:c0=0
    rotate_left
    · have ec:(((c0:Nat):Int) != 0)=true:=by rw [bne_iff_ne]; omega
      obtain ⟨rfl,rfl⟩:wd=⟨#[]⟩∧ww=c0:=by simpa using HW2.out.trans (if_pos hc)
      have HV:=Lib.hid (HD5.out.trans (if_pos hc))
      clear hc
      go_wp2
      go_returns
      exact ⟨by rw [HV.out]; rfl,HU7.out⟩
    subst hc
    have HW3:=Lib.hid (HW2.out.trans (if_neg (by simp)))
    by_cases hu:u=D.size
    · have eu:(((u:Nat):Int) != (D.size:Int))=false:=by rw [bne_eq_false_iff_eq]; omega
      have HF:=Lib.hid (HW3.out.trans (if_neg (by simp [hu])))
      clear hu
      go_wp2
      go_meet
      exact ⟨x,rfl,HB7.out,HU7.out,HF⟩
    · have eu:(((u:Nat):Int) != (D.size:Int))=true:=by rw [bne_iff_ne]; omega
      obtain ⟨rfl,rfl⟩:wd=⟨#[]⟩∧ww=2:=by simpa using HW3.out.trans (if_pos hu)
      have HV:=Lib.hid (HD5.out.trans (if_pos (by decide)))
      clear hu
      go_wp2
      go_returns
      exact ⟨by rw [HV.out]; rfl,HU7.out⟩
  · have HF:=Lib.hid (HWE.out.trans (if_neg hm8))
    have em:(hm==8)=false:=by rw [beq_eq_false_iff_ne]; exact hm8
    clear HWE HOF hm8
    go_wp2
    go_meet
    exact ⟨D,rfl,HBA.out,HUA.out,HF⟩
 case rest =>
 obtain ⟨y,rfl,hB,hU,HFY⟩:=hcut
 have HBD:=Lib.hid hB
 have HUD:=Lib.hid hU
 clear kA k4 HBA HUA hB hU HWE HOF
 have HF0:=Lib.hid (HFY.out.trans (HFF.out y))
 have k4:=HBD.out.cell 4 rfl
 by_cases g1:(65000:Int)<wh
 · obtain ⟨rfl,rfl⟩:wd=⟨#[]⟩∧ww=4:=by simpa using HF0.out.trans (if_pos g1)
   have HV:=Lib.hid (HD5.out.trans (if_pos (by decide)))
   go_wp2
   go_returns
   exact ⟨by rw [HV.out]; rfl,HUD.out⟩
 have HF1:=Lib.hid (HF0.out.trans (if_neg g1))
 by_cases g2:(y.size:Int)=wh
 rotate_left
 · have e2:((y.size:Int) != wh)=true:=by rw [bne_iff_ne]; exact g2
   obtain ⟨rfl,rfl⟩:wd=⟨#[]⟩∧ww=2:=by simpa using HF1.out.trans (if_pos g2)
   have HV:=Lib.hid (HD5.out.trans (if_pos (by decide)))
   clear g2
   go_wp2
   go_returns
   exact ⟨by rw [HV.out]; rfl,HUD.out⟩
 have e2:((y.size:Int) != wh)=false:=by rw [bne_eq_false_iff_eq]; exact g2
 have HF2:Hid ((wd,ww)=if xa y≠sum then (⟨#[]⟩,11) else (y,0)):=Lib.hid (by
  rw [HF1.out,if_neg (by simp [g2])]
  rcases HBK.out with h | ⟨h,h5,_,h6,_⟩
  · simp [h]
  · rw [if_neg (by omega),if_neg (by rw [zef y (by omega),h5]; simp)])
 have HCR:=Lib.hid (fun z=>ziB y z (by omega))
 clear HF0 HF1 HFF HFY
 go_upto_region 34 with fail
 clear g1 g2 e2 k4
 refine wp_region_held_drew (S:=fun w'=>Blk w' g [.string hp,.int .i64 hm,.int .u32 (sum:Nat),.int .i64 l,.int .i64 wh,.int .i64 hk,.int .i64 md,.int .u32 (ht:Nat),.int .i64 pos] 26∧Upd [] w w') (by kernel_rfl) ⟨HBD.out.drew,HUD.out.drew⟩ (fun hHeld=>hdN ?_)
 refine hdT 0 (some 149) ?_; refine hdT 2 (some 151) ?_
 refine hdT 3 (some 152) ?_ (hy:=by intro w0 hSw; have q0:=hSw.1.cell 2 rfl; go_simp; try with_reducible rfl)
 refine hdO 1 (fun K hK=>?_)
 go_simp
 refine (HCR.out _).mono ?_
 rintro e z9 ⟨rfl,hz9⟩
 subst hz9
 go_wp2
 refine hK.out _ _ hHeld (fun hHeld=>hdN ?_)
 clear hK K
 refine hdT 4 (some 153) ?_
 refine wpAnyH_done (by kernel_rfl) ?_ 0
 have HBE:=Lib.hid hHeld.1
 have HUE:=Lib.hid hHeld.2
 clear hHeld HBD HUD HCR
 by_cases g3:xa y=sum
 rotate_left
 · have e3:(((xa y:Nat):Int) != ((sum:Nat):Int))=true:=by rw [bne_iff_ne]; omega
   obtain ⟨rfl,rfl⟩:wd=⟨#[]⟩∧ww=11:=by simpa using HF2.out.trans (if_pos g3)
   have HV:=Lib.hid (HD5.out.trans (if_pos (by decide)))
   clear g3
   go_wp2
   go_returns
   exact ⟨by rw [HV.out]; rfl,HUE.out⟩
 have e3:(((xa y:Nat):Int) != ((sum:Nat):Int))=false:=by rw [bne_eq_false_iff_eq]; omega
 obtain ⟨rfl,rfl⟩:wd=y∧ww=0:=by simpa using HF2.out.trans (if_neg (by simp [g3]))
 have HV:=Lib.hid (HD5.out.trans (if_neg (by simp)))
 have HWN:=Lib.hid (show IntKind.i64.wrap ((n:Int)+l)=(n:Int)+l from IntWalk.i64_in _ (by omega))
 have HWT:=Lib.hid (show IntKind.i64.wrap ((n:Int)+l+(tl:Nat))=(n:Int)+l+(tl:Nat) from IntWalk.i64_in _ (by have:=HTL.out; omega))
 clear HD5 HF2
 go_upto_region 36 with fail
 clear g3 e3
 refine wp_region_held_drew (S:=fun w'=>Blk w' g [.string hp,.int .i64 hm,.int .u32 (sum:Nat),.int .i64 l,.int .i64 wh,.int .i64 hk,.int .i64 md,.int .u32 (ht:Nat),.int .i64 pos] 26∧Upd [] w w') (by kernel_rfl) ⟨HBE.out.drew,HUE.out.drew⟩ (fun hHeld=>hdN ?_)
 refine hdT 0 (some 154) ?_; refine hdT 1 (some 155) ?_; refine hdT 2 (some 156) ?_
 refine hdT 3 (some 157) ?_ (hy:=by intro w0 hSw; have q0:=hSw.1.cell 3 rfl; go_simp; try with_reducible rfl)
 refine hdT 4 (some 158) ?_ (hy:=by intro w0 hSw; go_simp; all_goals rw [HWN.out]) (v := .int .i64 ((n:Int)+l)); refine hdT 5 (some 159) ?_
 refine hdT 6 (some 160) ?_ (hy:=by intro w0 hSw; go_simp; all_goals rw [HWT.out]) (v := .int .i64 ((n:Int)+l+(tl:Nat)))
 refine hdT 7 (some 4) ?_; refine hdT 8 (some 5) ?_; refine hdT 9 (some 6) ?_
 refine wpAnyH_done (by kernel_rfl) ?_ 0
 go_wp2
 go_returns
 exact ⟨by rw [HV.out]; rfl,hHeld.2⟩
end Go.Proofs.YtfkcdnaghndgfaaGreatDoor
