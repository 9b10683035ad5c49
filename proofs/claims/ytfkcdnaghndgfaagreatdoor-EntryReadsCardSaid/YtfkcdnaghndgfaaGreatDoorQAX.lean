/- Packages local and swingleref19: Right: walks. -/
import Derived.Test.YtfkcdnaghndgfaaGreatDoorQAU
import Derived.Test.YtfkcdnaghndgfaaGreatDoorQAT
import Derived.Test.YtfkcdnaghndgfaaGreatDoorQAV
import Derived.Test.YtfkcdnaghndgfaaGreatDoorQAW
set_option linter.unusedVariables false
set_option linter.unusedSimpArgs false
set_option linter.unusedSectionVars false
namespace Go.Proofs.YtfkcdnaghndgfaaGreatDoor
open Go.RowKit
theorem vD (a:List Nat) (p:ByteArray) (ha : ∀ x∈a,x<256):((zd a).toList=p.toList)=(a=za p):=by
 refine propext ⟨fun h=>?_,fun h=>by rw [h,zz]⟩
 rw [ByteArray.toList_eq,ByteArray.toList_eq] at h
 have:zd a=p:=ByteArray.ext (Array.ext' h)
 rw [← this,zE a ha]
set_option maxRecDepth 100000 in
set_option maxHeartbeats 4000000 in
theorem JJ (r:RecD) (w:World) (h:r.Fits):Calls Tryz.prog 21 #[r.v] w fun e w'=>e = .returned (.int .i64 (yF r:Nat))∧Upd [] w w':=by
 have hp:=h.p
 have hsz:(zd (zJ r.k r.p)).size≤1000000:=by have:=jB r.k r.p; rw [zq]; omega
 have HN:=Lib.hid (fun w=>Xh r w h)
 have HP:=Lib.hid (fun w=>zaz (zd (zJ r.k r.p)) w hsz)
 rw [zE _ (jR r.k r.p)] at HP
 have HL:=Lib.hid (fun w=>zeu r w h)
 have HT:=Lib.hid (fun w=>zaD r w h)
 have HE:Hid (yF r=if jL r=false then 5 else if xK r=false then 2 else if r.md<0∨511<r.md then 12 else if xk r.k r.t=false then 13 else 0):=Lib.hid rfl
 have HB:Hid (jL r=((zR (zJ r.k r.p)).2.2&&decide ((zR (zJ r.k r.p)).1=za r.p)&&decide (((zR (zJ r.k r.p)).2.1:Int)=r.k))):=Lib.hid rfl
 have HA:Hid (∀ x∈(zR (zJ r.k r.p)).1,x<256):=Lib.hid (zah (jR r.k r.p))
 generalize yF r=E at *
 generalize xk r.k r.t=tb at *
 generalize xK r=lb at *
 generalize jL r=nb at *
 generalize zR (zJ r.k r.p)=pp at *
 generalize zd (zJ r.k r.p)=S at *
 clear hsz
 obtain ⟨a,kk,okb⟩:=pp
 unfold Xl at HP
 dsimp only at HP HB HA
 obtain ⟨p,m,sum,l,wh,k,md,t,pos⟩:=r
 unfold RecD.v at *
 dsimp only at *
 have HQ:=Lib.hid (vD a p HA.out)
 clear HA
 go_enter Tryz.func21,Tryz.ntmps21
 go_wp2_with fail
 refine (HN.out _).mono ?_
 rintro e w1 ⟨rfl,hU1⟩
 go_wp2_with fail
 refine (HP.out _).mono ?_
 rintro e w2 ⟨rfl,hU2⟩
 have hU:Upd [] w w2:=(((Upd.refl [] w).alloc _).then hU1).then hU2
 have hB:=((Blk.new w [.string p,.int .i64 m,.int .u32 (sum:Nat),.int .i64 l,.int .i64 wh,.int .i64 k,.int .i64 md,.int .u32 (t:Nat),.int .i64 pos] 26).upd hU1 (by simp)).upd hU2 (by simp)
 have hlt:=hB.lt
 generalize w.heap.size=b0 at *
 have cA:=hB.all
 have HBB:=Lib.hid hB
 have HU:=Lib.hid hU
 clear hB hU hU1 hU2
 go_wp2_with fail
 any_goals (go_ret; refine ⟨?_,HU.out⟩; have hnb:nb=false:=(by
  rw [HB.out]
  first
   | (have h1 := ‹¬ (okb=true)›; simp [h1]; done)
   | (have h2 := ‹¬ ((zd a).toList=p.toList)›; rw [HQ.out] at h2; simp [h2]; done)
   | (have h3 := ‹((kk:Int) != k)=true›; have h4 : ¬ ((kk:Int)=k):=(by simpa using h3); simp [h4]; done)); rw [HE.out,hnb]; rfl)
 have hnb:nb=true:=by
  have h2 := ‹(zd a).toList=p.toList›
  have h1 := ‹okb=true›
  have h3 := ‹((kk:Int) != k)=false›
  rw [HQ.out] at h2
  have h4:(kk:Int)=k:=by simpa using h3
  rw [HB.out]
  simp [h1,h2,h4]
 cases lb with
 | false =>
   refine (HL.out _).mono ?_
   rintro e w3 ⟨rfl,hU3⟩
   have HF:=Lib.hid (HU.out.then hU3)
   clear hU3
   go_wp2
   go_ret
   exact ⟨by rw [HE.out,hnb]; rfl,HF.out⟩
 | true =>
   refine (HL.out _).mono ?_
   rintro e w3 ⟨rfl,hU3⟩
   have hB3:=HBB.out.upd hU3 (by simp)
   have dA:=hB3.all
   have HF:=Lib.hid (HU.out.then hU3)
   clear hU3 hB3 cA
   by_cases hm:md<0∨511<md
   · have HX:Hid (E=12):=Lib.hid (by rw [HE.out,hnb,if_neg (by simp),if_neg (by simp),if_pos hm])
     clear HE
     rcases hm with hm | hm
     · go_wp2_with fail
       go_ret
       exact ⟨by rw [HX.out]; rfl,HF.out⟩
     · have hm0 : ¬ md<0:=by omega
       go_wp2_with fail
       go_ret
       exact ⟨by rw [HX.out]; rfl,HF.out⟩
   · have HX:Hid (E=if tb=false then 13 else 0):=Lib.hid (by rw [HE.out,hnb,if_neg (by simp),if_neg (by simp),if_neg hm])
     have hm0 : ¬ md<0:=by omega
     have hm1 : ¬ 511<md:=by omega
     clear HE hm
     go_wp2_with fail
     refine (HT.out _).mono ?_
     rintro e w4 ⟨rfl,hU4⟩
     have HG:=Lib.hid (HF.out.then hU4)
     clear hU4 dA
     cases tb with
     | false =>
       go_wp2
       go_ret
       exact ⟨by rw [HX.out]; rfl,HG.out⟩
     | true =>
       go_wp2
       go_ret
       exact ⟨by rw [HX.out]; rfl,HG.out⟩
end Go.Proofs.YtfkcdnaghndgfaaGreatDoor
namespace Go.Proofs.YtfkcdnaghndgfaaGreatDoor
open Go.RowKit
set_option maxRecDepth 100000 in
set_option maxHeartbeats 6400000 in
theorem zaj (s:ByteArray) (r:RecD) (w:World) (hs:s.size≤1000000) (hr:r.Fits) :
 Calls Tryz.prog 14 #[.string s,r.v] w fun e w'=>e = .returned (zaI (xE s r))∧Upd [] w w':=by
 have HRT:=Lib.hid (fun z=>JJ r z hr)
 have HRD0:=fun z=>Wp s r.pos z hs
 have HRP:=Lib.hid (VN (s:=s) (a:=r.pos))
 have HBD:=Lib.hid (fun h=>Qu (r:=r) h)
 have HAG0:=fun z=>zeW (zh s r.pos).1 r z
 have HTO0:=fun z h1 h2=>zdS s (zh s r.pos).1 r (r.pos+(zh s r.pos).2.1) (zh s r.pos).2.2.1 z hs h1 h2
 have HWH0:=fun z h1 h2=>zdI (s.extract (r.pos+(zh s r.pos).2.1).toNat (r.pos+(zh s r.pos).2.1+r.l).toNat) r z h1 h2
 have HDD:Hid (xE s r=if yF r≠0 then (⟨#[]⟩,0,1)
  else if (zh s r.pos).2.2.2≠0 then (⟨#[]⟩,0,(zh s r.pos).2.2.2)
  else if vY (zh s r.pos).1 r=false then (⟨#[]⟩,0,2)
  else if (qJ s (zh s r.pos).1 r (r.pos+(zh s r.pos).2.1) (zh s r.pos).2.2.1).2≠0 then (⟨#[]⟩,0,(qJ s (zh s r.pos).1 r (r.pos+(zh s r.pos).2.1) (zh s r.pos).2.2.1).2)
  else if (s.size:Int)-(r.pos+(zh s r.pos).2.1)<r.l then (⟨#[]⟩,0,3)
  else if (xg (s.extract (r.pos+(zh s r.pos).2.1).toNat (r.pos+(zh s r.pos).2.1+r.l).toNat) r).2≠0 then (⟨#[]⟩,0,(xg (s.extract (r.pos+(zh s r.pos).2.1).toNat (r.pos+(zh s r.pos).2.1+r.l).toNat) r).2)
  else ((xg (s.extract (r.pos+(zh s r.pos).2.1).toNat (r.pos+(zh s r.pos).2.1+r.l).toNat) r).1,(zh s r.pos).2.1+r.l+(qJ s (zh s r.pos).1 r (r.pos+(zh s r.pos).2.1) (zh s r.pos).2.2.1).1,0)):=Lib.hid rfl
 generalize xE s r=DP at *
 generalize yF r=E at *
 generalize zh s r.pos=Q at *
 obtain ⟨h,n,lt,e0⟩:=Q
 dsimp only at HRD0 HAG0 HTO0 HWH0 HDD HRP
 generalize vY h r=A at *
 have HTL:=Lib.hid (Wu s h r (r.pos+(n:Nat)) lt)
 generalize qJ s h r (r.pos+(n:Nat)) lt=TP at *
 obtain ⟨tl,tw⟩:=TP
 generalize hDg:s.extract (r.pos+(n:Nat)).toNat (r.pos+(n:Nat)+r.l).toNat=D at *
 generalize xg D r=WP at *
 obtain ⟨wd,ww⟩:=WP
 obtain ⟨hp,hm,hs,hl,hw,hk,hd,ht,ho⟩:=h
 obtain ⟨p,m,sum,l,wh,k,md,t,pos⟩:=r
 unfold RecD.v at HRT HAG0 HTO0 HWH0
 unfold Vr RecD.v at HRD0
 dsimp only at HTL HRT HRD0 HAG0 HTO0 HWH0 HRP HBD HDD hDg
 have HRD:=Lib.hid HRD0
 have HAG:=Lib.hid HAG0
 have HTO:=Lib.hid HTO0
 have HDE:=Lib.hid hDg
 have HWH1:=Lib.hid HWH0
 clear HRD0 HAG0 HTO0 HWH0 hDg hr
 unfold RecD.v
 dsimp only
 have HB:=Lib.hid (Blk.new w [.string p,.int .i64 m,.int .u32 (sum:Nat),.int .i64 l,.int .i64 wh,.int .i64 k,.int .i64 md,.int .u32 (t:Nat),.int .i64 pos] 26)
 have HU:=Lib.hid ((Upd.refl [] w).alloc (.cells #[.string p,.int .i64 m,.int .u32 (sum:Nat),.int .i64 l,.int .i64 wh,.int .i64 k,.int .i64 md,.int .u32 (t:Nat),.int .i64 pos] 26))
 go_enter Tryz.func14,Tryz.ntmps14
 go_upto_region 1 with fail
 change Code.wp _ _ _ _ (w.alloc (.cells #[.string p,.int .i64 m,.int .u32 (sum:Nat),.int .i64 l,.int .i64 wh,.int .i64 k,.int .i64 md,.int .u32 (t:Nat),.int .i64 pos] 26))
 generalize w.alloc (.cells #[.string p,.int .i64 m,.int .u32 (sum:Nat),.int .i64 l,.int .i64 wh,.int .i64 k,.int .i64 md,.int .u32 (t:Nat),.int .i64 pos] 26)=w1 at *
 generalize w.heap.size=g at *
 have kA:=HB.out.all
 have k3:=HB.out.cell 3 rfl
 have k8:=HB.out.cell 8 rfl
 go_wp2_with fail
 refine (HRT.out _).mono ?_
 rintro e w2 ⟨rfl,hu2⟩
 have HB2:=Lib.hid (HB.out.upd hu2 (by simp))
 have HU2:=Lib.hid (HU.out.then hu2)
 clear kA k3 k8 hu2 HB HU HRT
 by_cases h0:E=0
 rotate_left
 · have e1:(((E:Nat):Int) != 0)=true:=by rw [bne_iff_ne]; omega
   have HV:=Lib.hid (HDD.out.trans (if_pos h0))
   clear h0
   go_wp2
   go_returns
   exact ⟨by rw [HV.out]; rfl,HU2.out⟩
 have HD1:=Lib.hid (HDD.out.trans (if_neg (by simp [h0])))
 have hb:=HBD.out h0
 obtain ⟨hb1,hb2,hb3,hb4⟩:=hb
 have HBK:=Lib.hid hb4
 subst h0
 clear HDD HBD hb4
 have k8:=HB2.out.cell 8 rfl
 go_wp2_with fail
 refine (HRD.out _).mono ?_
 rintro e w3 ⟨rfl,hu3⟩
 have HB3:=Lib.hid ((HB2.out.upd hu3 (by simp)).alloc (.cells #[.string hp,.int .i64 hm,.int .u32 (hs:Nat),.int .i64 hl,.int .i64 hw,.int .i64 hk,.int .i64 hd,.int .u32 (ht:Nat),.int .i64 ho] 26))
 have HU3:=Lib.hid ((HU2.out.then hu3).alloc (.cells #[.string hp,.int .i64 hm,.int .u32 (hs:Nat),.int .i64 hl,.int .i64 hw,.int .i64 hk,.int .i64 hd,.int .u32 (ht:Nat),.int .i64 ho] 26))
 have HC3:=Lib.hid (Blk.new w3 [.string hp,.int .i64 hm,.int .u32 (hs:Nat),.int .i64 hl,.int .i64 hw,.int .i64 hk,.int .i64 hd,.int .u32 (ht:Nat),.int .i64 ho] 26)
 clear k8 hu3 HB2 HU2 HRD
 go_upto_region 4 with fail
 change Code.wp _ _ _ _ (w3.alloc (.cells #[.string hp,.int .i64 hm,.int .u32 (hs:Nat),.int .i64 hl,.int .i64 hw,.int .i64 hk,.int .i64 hd,.int .u32 (ht:Nat),.int .i64 ho] 26))
 generalize w3.alloc (.cells #[.string hp,.int .i64 hm,.int .u32 (hs:Nat),.int .i64 hl,.int .i64 hw,.int .i64 hk,.int .i64 hd,.int .u32 (ht:Nat),.int .i64 ho] 26)=w4 at *
 generalize w3.heap.size=c at *
 by_cases h1:e0=0
 rotate_left
 · have e1:(((e0:Nat):Int) != 0)=true:=by rw [bne_iff_ne]; omega
   have HV:=Lib.hid (HD1.out.trans (if_pos h1))
   clear h1
   go_wp2
   go_returns
   exact ⟨by rw [HV.out]; rfl,HU3.out⟩
 have HD2:=Lib.hid (HD1.out.trans (if_neg (by simp [h1])))
 obtain ⟨hp1,hp2,hp3,hp4⟩:=HRP.out h1
 subst h1
 clear HD1 HRP
 obtain ⟨f,hf⟩ : ∃ f,pos+(n:Int)=f:=⟨_,rfl⟩
 have hw1:IntKind.i64.wrap (pos+(n:Int))=f:=by rw [← hf]; exact IntWalk.i64_in _ (by omega)
 rw [hf] at HTO HD2 HDE
 have hf0:0≤f∧f≤(s.size:Int):=by omega
 have HPN:=Lib.hid hp4
 clear hf hp1 hp4
 have kA:=HB3.out.all
 have k3:=HB3.out.cell 3 rfl
 have aA:=HC3.out.all
 have k8:=HB3.out.cell 8 rfl
 go_wp2_with fail
 refine (HAG.out _).mono ?_
 rintro e w5 ⟨rfl,hu5⟩
 have HB4:=Lib.hid (HB3.out.upd hu5 (by simp))
 have HC4:=Lib.hid (HC3.out.upd hu5 (by simp))
 have HU4:=Lib.hid (HU3.out.then hu5)
 clear kA k3 k8 aA hu5 HB3 HU3 HC3 HAG hw1
 cases A with
 | false =>
   have HV:=Lib.hid (HD2.out.trans (if_pos rfl))
   go_wp2
   go_returns
   exact ⟨by rw [HV.out]; rfl,HU4.out⟩
 | true =>
 have HD3:=Lib.hid (HD2.out.trans (if_neg (by simp)))
 clear HD2
 have kA:=HB4.out.all
 have k3:=HB4.out.cell 3 rfl
 have k8:=HB4.out.cell 8 rfl
 have aA:=HC4.out.all
 go_wp2_with fail
 refine (HTO.out _ (by omega) (by omega)).mono ?_
 rintro e w6 ⟨rfl,hu6⟩
 have HB5:=Lib.hid (HB4.out.upd hu6 (by simp))
 have HU5:=Lib.hid (HU4.out.then hu6)
 clear kA k3 k8 aA hu6 HB4 HU4 HC4 HTO
 by_cases h2:tw=0
 rotate_left
 · have e1:(((tw:Nat):Int) != 0)=true:=by rw [bne_iff_ne]; omega
   have HV:=Lib.hid (HD3.out.trans (if_pos h2))
   clear h2
   go_wp2
   go_returns
   exact ⟨by rw [HV.out]; rfl,HU5.out⟩
 have HD4:=Lib.hid (HD3.out.trans (if_neg (by simp [h2])))
 subst h2
 clear HD3
 have hw2:IntKind.i64.wrap ((s.size:Int)-f)=(s.size:Int)-f:=IntWalk.i64_in _ (by omega)
 have k3:=HB5.out.cell 3 rfl
 by_cases h3:(s.size:Int)-f<l
 · have HV:=Lib.hid (HD4.out.trans (if_pos h3))
   go_wp2
   go_returns
   exact ⟨by rw [HV.out]; rfl,HU5.out⟩
 have HD5:=Lib.hid (HD4.out.trans (if_neg h3))
 have HWF:=Lib.hid (show IntKind.i64.wrap (f+l)=f+l from IntWalk.i64_in _ (by omega))
 have hds:D.size≤1000000:=by rw [← HDE.out,ByteArray.size_extract]; omega
 have HWH:=Lib.hid (fun z=>HWH1.out z hds (by rcases HBK.out with h | h; exact .inl h; exact .inr h.1))
 have hfl:f+l≤(s.size:Int):=by omega
 have HSL:=HDE
 clear HD4 HWH1
 go_upto_region 14 with fail
 clear h3 hw2 k3
 refine wp_region_held_drew (S:=fun w'=>Blk w' g [.string p,.int .i64 m,.int .u32 (sum:Nat),.int .i64 l,.int .i64 wh,.int .i64 k,.int .i64 md,.int .u32 (t:Nat),.int .i64 pos] 26∧Upd [] w w') (by kernel_rfl) ⟨HB5.out.drew,HU5.out.drew⟩ (fun hHeld=>hdN ?_)
 refine hdT 0 (some 59) ?_; refine hdT 1 (some 60) ?_; refine hdT 2 (some 61) ?_; refine hdT 3 (some 62) ?_
 refine hdT 4 (some 63) ?_ (hy:=by intro w0 hSw; have q0:=hSw.1.cell 3 rfl; go_simp; try with_reducible rfl)
 refine hdT 5 (some 64) ?_ (hy:=by intro w0 hSw; go_simp; all_goals rw [HWF.out]) (v := .int .i64 (f+l))
 refine hdT 6 (some 65) ?_ (hy:=by intro w0 hSw; go_simp; all_goals rw [HSL.out,if_pos (by omega),if_pos (by omega)]) (v := .string D)
 refine hdT 7 (some 66) ?_ (hy:=by intro w0 hSw; have qA:=hSw.1.all; go_simp; try with_reducible rfl)
 refine hdO 8 (fun K hK=>?_)
 go_simp
 refine (HWH.out _).mono ?_
 rintro e z1 ⟨rfl,hz1⟩
 go_wp2
 refine hK.out _ _ ⟨hHeld.1.upd hz1 (by simp),hHeld.2.then hz1⟩ (fun hHeld=>hdN ?_)
 clear hK K
 refine hdT 9 (some 58) ?_; refine hdT 10 (some 68) ?_; refine hdT 11 (some 69) ?_; refine hdT 12 (some 13) ?_; refine hdT 13 (some 10) ?_
 refine wpAnyH_done (by kernel_rfl) ?_ 0
 have HB6:=Lib.hid hHeld.1
 have HU6:=Lib.hid hHeld.2
 clear hHeld HB5 HU5 HWH
 by_cases h4:ww=0
 rotate_left
 · have e1:(((ww:Nat):Int) != 0)=true:=by rw [bne_iff_ne]; omega
   have HV:=Lib.hid (HD5.out.trans (if_pos h4))
   clear h4
   go_wp2
   go_returns
   exact ⟨by rw [HV.out]; rfl,HU6.out⟩
 have HV:=Lib.hid (HD5.out.trans (if_neg (by simp [h4])))
 subst h4
 have HWN:=Lib.hid (show IntKind.i64.wrap ((n:Int)+l)=(n:Int)+l from IntWalk.i64_in _ (by omega))
 have HWT:=Lib.hid (show IntKind.i64.wrap ((n:Int)+l+(tl:Nat))=(n:Int)+l+(tl:Nat) from IntWalk.i64_in _ (by have:=HTL.out; omega))
 clear HD5
 go_upto_region 17 with fail
 refine wp_region_held_drew (S:=fun w'=>Blk w' g [.string p,.int .i64 m,.int .u32 (sum:Nat),.int .i64 l,.int .i64 wh,.int .i64 k,.int .i64 md,.int .u32 (t:Nat),.int .i64 pos] 26∧Upd [] w w') (by kernel_rfl) ⟨HB6.out.drew,HU6.out.drew⟩ (fun hHeld=>hdN ?_)
 refine hdT 0 (some 73) ?_; refine hdT 1 (some 74) ?_; refine hdT 2 (some 75) ?_
 refine hdT 3 (some 76) ?_ (hy:=by intro w0 hSw; have q0:=hSw.1.cell 3 rfl; go_simp; try with_reducible rfl)
 refine hdT 4 (some 77) ?_ (hy:=by intro w0 hSw; go_simp; all_goals rw [HWN.out]) (v := .int .i64 ((n:Int)+l)); refine hdT 5 (some 78) ?_
 refine hdT 6 (some 79) ?_ (hy:=by intro w0 hSw; go_simp; all_goals rw [HWT.out]) (v := .int .i64 ((n:Int)+l+(tl:Nat)))
 refine hdT 7 (some 4) ?_; refine hdT 8 (some 5) ?_; refine hdT 9 (some 6) ?_
 refine wpAnyH_done (by kernel_rfl) ?_ 0
 go_wp2
 go_returns
 exact ⟨by rw [HV.out]; rfl,hHeld.2⟩
end Go.Proofs.YtfkcdnaghndgfaaGreatDoor
namespace Go.Proofs.YtfkcdnaghndgfaaGreatDoor
open Go.RowKit
set_option maxRecDepth 100000 in
set_option maxHeartbeats 12800000 in
theorem KF (s:ByteArray) (a:Int) (w:World) (hs:s.size≤1000000):Calls Tryz.prog 31 #[.string s,.int .i64 a] w fun e w'=>e = .returned (Vr (zh s a))∧Upd [] w w':=by
 by_cases ha:a<0∨(s.size:Int)<a∨(s.size:Int)-a<30
 · have HV:Hid (zh s a=(qk,0,false,3)):=Lib.hid (by
    unfold zh
    by_cases h:a<0∨(s.size:Int)<a
    · rw [if_pos h]
    · rw [if_neg h]
      exact if_pos (.inl (by rw [ByteArray.size_extract]; omega)))
   rcases (by omega:a<0∨(¬ a<0∧(s.size:Int)<a)∨(0≤a∧a≤(s.size:Int) ∧ ¬ a<0∧(s.size:Int)-a<30)) with h1 | ⟨h0,h1⟩ | ⟨h2,h3,h0,h1⟩
   all_goals
    clear ha
    go_enter Tryz.func31,Tryz.ntmps31
    go_wp2
    (try simp only [Exit.inBlock,Exit.then]); refine bodyPost_ret (zO rfl _ _ w.heap.size _ _ _ _ _ _ _ _ _ rfl ((Blk.new w [.string .empty,.int .i64 0,.int .u32 0,.int .i64 0,.int .i64 0,.int .i64 0,.int .i64 0,.int .u32 0,.int .i64 0] 26).alloc _)) rfl ⟨?_,((Upd.refl [] w).alloc _).alloc _⟩
    rw [HV.out]; rfl
 obtain ⟨i,rfl⟩ : ∃ i:Nat,a=i:=⟨a.toNat,by omega⟩
 have hi0:(0:Int)≤(i:Int):=by omega
 have hi1:(i:Int)≤(s.size:Int):=by omega
 have hz : ¬ (s.size:Int)-(i:Int)<30:=by omega
 obtain ⟨x,hx⟩ : ∃ x,s.extract i s.size=x:=⟨_,rfl⟩
 have hxs:x.size=s.size-i:=by rw [← hx,ByteArray.size_extract]; omega
 have hxm:x.size≤1000000:=by omega
 have h30:30≤x.size:=by omega
 have HV0:Hid (zh s i=Xy x i):=Lib.hid (by unfold zh; rw [if_neg (by omega),← hx]; rfl)
 have HXD:=Lib.hid hx
 clear ha hx hxs
 obtain ⟨be,gbe⟩ : ∃ n,gN x 0 4=n:=⟨_,rfl⟩
 obtain ⟨lo,glo,blo,Alo⟩:=zaJ x 26 2 (by omega) hxm (by omega)
 obtain ⟨mo,gmo,bmo,Amo⟩:=zaJ x 28 2 (by omega) hxm (by omega)
 obtain ⟨fl,gfl,bfl,Afl⟩:=zaJ x 6 2 (by omega) hxm (by omega)
 obtain ⟨me,gme,bme,Ame⟩:=zaJ x 8 2 (by omega) hxm (by omega)
 obtain ⟨ti,gti,bti,Ati⟩:=zaJ x 10 4 (by omega) hxm (by omega)
 obtain ⟨su,gsu,bsu,Asu⟩:=zaJ x 14 4 (by omega) hxm (by omega)
 obtain ⟨la,gla,bla,Ala⟩:=zaJ x 18 4 (by omega) hxm (by omega)
 obtain ⟨wh,gwh,bwh,Awh⟩:=zaJ x 22 4 (by omega) hxm (by omega)
 have HVX:Hid (Xy x i=if x.size<30+lo+mo then (qk,0,false,3)
  else if yk ⟨be,fl,me,ti,su,la,wh,((za x).drop 30).take lo⟩=false then (qk,0,false,2)
  else if (zR (((za x).drop 30).take lo)).2.2=false then (qk,0,false,5)
  else if xk ((zR (((za x).drop 30).take lo)).2.1:Nat) ti=false then (qk,0,false,13)
  else (⟨zd (zR (((za x).drop 30).take lo)).1,me,su,la,wh,((zR (((za x).drop 30).take lo)).2.1:Nat),0,ti,i⟩,30+lo+mo,decide (fl=2056),0)):=Lib.hid (by
  have hl:qZ x=30+lo+mo:=by unfold qZ; rw [glo,gmo]
  unfold Xy
  by_cases hh:x.size<30+lo+mo
  · rw [if_pos hh,if_pos (.inr (by rw [hl]; exact hh))]
  · rw [if_neg hh,if_neg (by rw [hl]; omega),zaG x h30 (by rw [hl]; omega),gbe,gfl,gme,gti,gsu,gla,gwh,glo,hl]
    rfl)
 have HM:=Lib.hid (zgB x (by omega) [80,75,3,4] 67324752 rfl (by decide))
 rw [gbe] at HM
 have hnm:za (x.extract 30 (30+lo))=((za x).drop 30).take lo:=by rw [zK,Nat.add_sub_cancel_left]
 have HPT:=Lib.hid (fun w=>VB (x.extract 30 (30+lo)) w (by rw [ByteArray.size_extract]; omega))
 rw [hnm] at HPT
 have HPS:=Lib.hid (fun h=>XX (l:=((za x).drop 30).take lo) h)
 generalize ((za x).drop 30).take lo=nm at *
 generalize zR nm=PP at *
 obtain ⟨pa,kk,okb⟩:=PP
 unfold Xl at HPT
 dsimp only at HPT HPS HVX
 simp only [Nat.reducePow] at blo bmo bfl bme bti bsu bla bwh
 have E1:Hid ((((fl:Int) != 2048)=decide (fl≠2048)∧((fl:Int) != 2056)=decide (fl≠2056))∧(((me:Int) != 0)=decide (me≠0)∧((me:Int) != 8)=decide (me≠8))∧((fl:Int)==2056)=decide (fl=2056)∧(((su:Int) != 0)=decide (su≠0)∧((la:Int) != 0)=decide (la≠0)∧((wh:Int) != 0)=decide (wh≠0))):=Lib.hid (by
  refine ⟨⟨?_,?_⟩,⟨?_,?_⟩,?_,?_,?_,?_⟩
  all_goals (rw [Bool.eq_iff_iff]; simp<;>omega))
 have HV:=Lib.hid (HV0.out.trans HVX.out)
 clear HV0 HVX hnm gbe glo gmo gfl gme gti gsu gla gwh
 go_enter Tryz.func31,Tryz.ntmps31
 go_wp2_with fail
 rw [HXD.out]
 have S:=Lib.hid (Rd3.new w)
 refine (Alo.out _).mono ?_
 rintro e w1 ⟨rfl,hu⟩
 have S:=Lib.hid (S.out.upd hu)
 clear hu HXD hi0 hi1 hz
 go_wp2_with fail
 refine (Amo.out _).mono ?_
 rintro e w1 ⟨rfl,hu⟩
 have S:=Lib.hid (S.out.upd hu)
 clear hu
 generalize w.heap.size=r0 at *
 by_cases hlen:x.size<30+lo+mo
 · have HV:=Lib.hid (HV.out.trans (if_pos hlen))
   have cA:=S.out.2.1.all
   have dA:=S.out.2.2.1.all
   have fA:=S.out.2.1.frz
   go_wp2_with fail
   (try simp only [Exit.inBlock,Exit.then]); refine bodyPost_ret (zO rfl _ _ r0 _ _ _ _ _ _ _ _ _ rfl (Blk.set9 S.out.2.1 _ _ _ _ _ _ _ _ _)) rfl ⟨?_,Upd.set9 S.out.2.2.2 (.inr S.out.1) _ _ _ _ _ _ _ _ _⟩
   rw [HV.out]; rfl
 have HV:=Lib.hid (HV.out.trans (if_neg hlen))
 have hl1:30+lo+mo≤x.size:=by omega
 clear hlen
 go_wp2_with fail
 refine (Afl.out _).mono ?_
 rintro e w1 ⟨rfl,hu⟩
 have S:=Lib.hid (S.out.upd hu)
 clear hu
 go_wp2_with fail
 refine (Ame.out _).mono ?_
 rintro e w1 ⟨rfl,hu⟩
 have S:=Lib.hid (S.out.upd hu)
 clear hu
 by_cases hg:be=67324752∧(fl=2048∨fl=2056)∧(me=0∨me=8)
 rotate_left
 · have HV:=Lib.hid (HV.out.trans (if_pos (by unfold yk; simp; omega)))
   obtain ⟨⟨t1,t2⟩,⟨t3,t4⟩,_⟩:=E1.out
   have tm:=HM.out
   clear E1 HM Ati Asu Ala Awh HPT HPS
   rcases (by omega:be≠67324752∨(be=67324752∧fl≠2048∧fl≠2056)∨(be=67324752∧fl=2048∧me≠0∧me≠8)∨(be=67324752∧fl=2056∧me≠0∧me≠8)) with h | ⟨h,h1,h2⟩ | ⟨h,h1,h2,h3⟩ | ⟨h,h1,h2,h3⟩
   all_goals
    simp only [h,decide_true,decide_false] at tm
    try simp only [h1,h2,decide_true,decide_false,ne_eq,not_true,not_false_eq_true,reduceCtorEq] at t1 t2
    try simp only [h2,h3,decide_true,decide_false,ne_eq,not_true,not_false_eq_true] at t3 t4
    clear hg
    have cA:=S.out.2.1.all
    have dA:=S.out.2.2.1.all
    have fA:=S.out.2.1.frz
    go_wp2_with fail
    (try simp only [Exit.inBlock,Exit.then]); refine bodyPost_ret (zO rfl _ _ r0 _ _ _ _ _ _ _ _ _ rfl (Blk.set9 S.out.2.1 _ _ _ _ _ _ _ _ _)) rfl ⟨?_,Upd.set9 S.out.2.2.2 (.inr S.out.1) _ _ _ _ _ _ _ _ _⟩
    rw [HV.out]; rfl
 obtain ⟨hg1,hg2,hg3⟩:=hg
 have hm2:(me=0∨me=8):=hg3
 have hf2:(fl=2048∨fl=2056):=hg2
 have HM2:=Lib.hid (And.intro hf2 hm2)
 clear hm2 hf2
 go_upto_region 9 with fail
 go_cut [71] (fun s71 wx=>s71 = .bool false∧Hid (Rd3 w r0 wx))
 case first =>
  obtain ⟨⟨t1,t2⟩,⟨t3,t4⟩,_⟩:=E1.out
  have tm:=HM.out
  simp only [hg1,decide_true] at tm
  rcases hg2 with h1 | h1<;>rcases hg3 with h2 | h2
  all_goals
   subst h1 h2
   go_wp2
   go_meet
   exact ⟨rfl,S⟩
 case rest =>
 obtain ⟨rfl,S⟩:=hcut
 clear hg2 hg3
 go_wp2_with fail
 refine (Ati.out _).mono ?_
 rintro e w1 ⟨rfl,hu⟩
 have S:=Lib.hid (S.out.upd hu)
 clear hu
 go_wp2_with fail
 refine (Asu.out _).mono ?_
 rintro e w1 ⟨rfl,hu⟩
 have S:=Lib.hid (S.out.upd hu)
 clear hu
 go_wp2_with fail
 refine (Ala.out _).mono ?_
 rintro e w1 ⟨rfl,hu⟩
 have S:=Lib.hid (S.out.upd hu)
 clear hu
 go_wp2_with fail
 refine (Awh.out _).mono ?_
 rintro e w1 ⟨rfl,hu⟩
 have S:=Lib.hid (S.out.upd hu)
 clear hu
 have hq0:=S.out.2.2.1.lt
 have HQ:=Lib.hid (Blk.new w1 [.string { data := #[] },.int .i64 (me:Nat),.int .u32 (su:Nat),.int .i64 (la:Nat),.int .i64 (wh:Nat),.int .i64 0,.int .i64 0,.int .u32 (ti:Nat),.int .i64 (i:Nat)] 26)
 have S:=Lib.hid (S.out.upd ((Upd.refl [] w1).alloc (.cells #[.string { data := #[] },.int .i64 (me:Nat),.int .u32 (su:Nat),.int .i64 (la:Nat),.int .i64 (wh:Nat),.int .i64 0,.int .i64 0,.int .u32 (ti:Nat),.int .i64 (i:Nat)] 26)))
 go_upto_region 12 with fail
 change Code.wp _ _ _ _ (w1.alloc (.cells #[.string { data := #[] },.int .i64 (me:Nat),.int .u32 (su:Nat),.int .i64 (la:Nat),.int .i64 (wh:Nat),.int .i64 0,.int .i64 0,.int .u32 (ti:Nat),.int .i64 (i:Nat)] 26))
 generalize w1.alloc (.cells #[.string { data := #[] },.int .i64 (me:Nat),.int .u32 (su:Nat),.int .i64 (la:Nat),.int .i64 (wh:Nat),.int .i64 0,.int .i64 0,.int .u32 (ti:Nat),.int .i64 (i:Nat)] 26)=w2 at *
 generalize w1.heap.size=q0 at *
 obtain ⟨B,hB⟩ : ∃ B,decide (fl=2056 ∧ ¬ (su=0∧la=0∧wh=0))=B:=⟨_,rfl⟩
 have HBB:=Lib.hid hB
 clear hB
 go_cut [102] (fun s102 wx=>s102 = .bool B∧Hid (Rd3 w r0 wx)∧Hid (Blk wx q0 [.string { data := #[] },.int .i64 (me:Nat),.int .u32 (su:Nat),.int .i64 (la:Nat),.int .i64 (wh:Nat),.int .i64 0,.int .i64 0,.int .u32 (ti:Nat),.int .i64 (i:Nat)] 26))
 case first =>
  obtain ⟨_,_,t5,t6,t7,t8⟩:=E1.out
  have gA:=HQ.out.all
  rcases (by omega:fl≠2056∨(fl=2056∧su≠0)∨(fl=2056∧su=0∧la≠0)∨(fl=2056∧su=0∧la=0∧wh≠0)∨(fl=2056∧su=0∧la=0∧wh=0)) with h | ⟨h,h1⟩ | ⟨h,h1,h2⟩ | ⟨h,h1,h2,h3⟩ | ⟨h,h1,h2,h3⟩
  all_goals
   simp only [h,decide_true,decide_false] at t5
   try simp only [h1,ne_eq,not_true,not_false_eq_true,decide_true,decide_false] at t6
   try simp only [h2,ne_eq,not_true,not_false_eq_true,decide_true,decide_false] at t7
   try simp only [h3,ne_eq,not_true,not_false_eq_true,decide_true,decide_false] at t8
   have HB2:=HBB.out
   simp [*] at HB2
   subst HB2
   go_wp2
   go_meet
   exact ⟨rfl,S,HQ⟩
 case rest =>
 obtain ⟨rfl,S,HQ⟩:=hcut
 cases B with
 | true =>
   have HV:=Lib.hid (HV.out.trans (if_pos (by have:=of_decide_eq_true HBB.out; unfold yk; simp; omega)))
   have cA:=S.out.2.1.all
   have dA:=S.out.2.2.1.all
   have fA:=S.out.2.1.frz
   go_wp2_with fail
   (try simp only [Exit.inBlock,Exit.then]); refine bodyPost_ret (zO rfl _ _ r0 _ _ _ _ _ _ _ _ _ rfl (Blk.set9 S.out.2.1 _ _ _ _ _ _ _ _ _)) rfl ⟨?_,Upd.set9 S.out.2.2.2 (.inr S.out.1) _ _ _ _ _ _ _ _ _⟩
   rw [HV.out]; rfl
 | false =>
 have HV:=Lib.hid (HV.out.trans (if_neg (by have:=of_decide_eq_false HBB.out; have:=HM2.out; unfold yk; simp; omega)))
 go_wp2_with fail
 refine (HPT.out _).mono ?_
 rintro e w3 ⟨rfl,hu⟩
 have S:=Lib.hid (S.out.upd hu)
 have HQ:=Lib.hid (HQ.out.upd hu (by simp))
 clear hu HBB HPT
 cases okb with
 | false =>
   have HV:=Lib.hid (HV.out.trans (if_pos rfl))
   have cA:=S.out.2.1.all
   have dA:=S.out.2.2.1.all
   have fA:=S.out.2.1.frz
   go_wp2_with fail
   (try simp only [Exit.inBlock,Exit.then]); refine bodyPost_ret (zO rfl _ _ r0 _ _ _ _ _ _ _ _ _ rfl (Blk.set9 S.out.2.1 _ _ _ _ _ _ _ _ _)) rfl ⟨?_,Upd.set9 S.out.2.2.2 (.inr S.out.1) _ _ _ _ _ _ _ _ _⟩
   rw [HV.out]; rfl
 | true =>
 have HV:=Lib.hid (HV.out.trans (if_neg (by simp)))
 have hps:=HPS.out rfl
 have HTM:=Lib.hid (fun w=>VO (⟨zd pa,me,su,la,wh,(kk:Nat),0,ti,(i:Nat)⟩:RecD) w ⟨by dsimp only; rw [zq]; omega,by dsimp only; omega,by dsimp only; omega⟩)
 unfold RecD.v at HTM
 dsimp only at HTM
 generalize xk (kk:Int) ti=tb at *
 have gA:=HQ.out.all
 have kA:=HQ.out.frz
 go_wp2_with fail
 refine (HTM.out _).mono ?_
 rintro e w4 ⟨rfl,hu⟩
 have S:=Lib.hid (((S.out.far (o:=0) hq0 (.string (zd pa))).far (o:=5) hq0 (.int .i64 (kk:Nat))).upd hu)
 have HQ:=Lib.hid (((HQ.out.set 0 (.string (zd pa))).set 5 (.int .i64 (kk:Nat))).upd hu (by simp))
 clear gA kA hu HTM HPS
 cases tb with
 | false =>
   have HV:=Lib.hid (HV.out.trans (if_pos rfl))
   have cA:=S.out.2.1.all
   have dA:=S.out.2.2.1.all
   have fA:=S.out.2.1.frz
   go_wp2_with fail
   (try simp only [Exit.inBlock,Exit.then]); refine bodyPost_ret (zO rfl _ _ r0 _ _ _ _ _ _ _ _ _ rfl (Blk.set9 S.out.2.1 _ _ _ _ _ _ _ _ _)) rfl ⟨?_,Upd.set9 S.out.2.2.2 (.inr S.out.1) _ _ _ _ _ _ _ _ _⟩
   rw [HV.out]; rfl
 | true =>
 have HV:=Lib.hid (HV.out.trans (if_neg (by simp)))
 have t5:=E1.out.2.2.1
 have gA:=HQ.out.all
 have cA:=S.out.2.1.all
 have dA:=S.out.2.2.1.all
 have fA:=S.out.2.1.frz
 go_wp2_with fail
 (try simp only [Exit.inBlock,Exit.then]); refine bodyPost_ret (zO rfl _ _ r0 _ _ _ _ _ _ _ _ _ rfl (Blk.set9 S.out.2.1 _ _ _ _ _ _ _ _ _)) rfl ⟨?_,Upd.set9 S.out.2.2.2 (.inr S.out.1) _ _ _ _ _ _ _ _ _⟩
 rw [HV.out]; simp [Vr,RecD.v]
end Go.Proofs.YtfkcdnaghndgfaaGreatDoor
