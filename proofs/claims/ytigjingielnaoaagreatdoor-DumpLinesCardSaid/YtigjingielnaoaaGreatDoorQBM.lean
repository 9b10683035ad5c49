/- Package entry: Data: its walk. -/
import Derived.Test.YtigjingielnaoaaGreatDoorQBJ
import Derived.Test.YtigjingielnaoaaGreatDoorQBK
import Derived.Test.YtigjingielnaoaaGreatDoorQBL
import Derived.Test.YtigjingielnaoaaGreatDoorQAG
import Derived.Test.YtigjingielnaoaaGreatDoorQAY
set_option linter.unusedVariables false
set_option linter.unusedSimpArgs false
set_option linter.unusedSectionVars false
namespace Go.Proofs.YtigjingielnaoaaGreatDoor
open Go.RowKit
set_option maxRecDepth 100000 in
set_option maxHeartbeats 6400000 in
theorem zcG (s:ByteArray) (r:RecD) (w:World) (hs:s.size≤1000000) (hr:r.Fits) :
 Calls Tryz.prog 118 #[.string s,r.v] w fun e w'=>e = .returned (WQ (xd s r))∧Upd [] w w':=by
 have HRT:=Lib.hid (fun z=>jL r z hr)
 have HRD0:=fun z=>VF s r.pos z hs
 have HRP:=Lib.hid (Jk (s:=s) (a:=r.pos))
 have HBD:=Lib.hid (fun h=>Ji (r:=r) h)
 have HAG0:=fun z=>zbN (zj s r.pos).1 r z
 have HTO0:=fun z h1 h2=>zc5 s (zj s r.pos).1 r (r.pos+(zj s r.pos).2.1) (zj s r.pos).2.2.1 z hs h1 h2
 have HWH0:=fun z h1 h2=>zbM (s.extract (r.pos+(zj s r.pos).2.1).toNat (r.pos+(zj s r.pos).2.1+r.l).toNat) r z h1 h2
 have HDD:Hid (xd s r=if zM r≠0 then (⟨#[]⟩,0,1)
  else if (zj s r.pos).2.2.2≠0 then (⟨#[]⟩,0,(zj s r.pos).2.2.2)
  else if ky (zj s r.pos).1 r=false then (⟨#[]⟩,0,2)
  else if (ql s (zj s r.pos).1 r (r.pos+(zj s r.pos).2.1) (zj s r.pos).2.2.1).2≠0 then (⟨#[]⟩,0,(ql s (zj s r.pos).1 r (r.pos+(zj s r.pos).2.1) (zj s r.pos).2.2.1).2)
  else if (s.size:Int)-(r.pos+(zj s r.pos).2.1)<r.l then (⟨#[]⟩,0,3)
  else if (xJ (s.extract (r.pos+(zj s r.pos).2.1).toNat (r.pos+(zj s r.pos).2.1+r.l).toNat) r).2≠0 then (⟨#[]⟩,0,(xJ (s.extract (r.pos+(zj s r.pos).2.1).toNat (r.pos+(zj s r.pos).2.1+r.l).toNat) r).2)
  else ((xJ (s.extract (r.pos+(zj s r.pos).2.1).toNat (r.pos+(zj s r.pos).2.1+r.l).toNat) r).1,(zj s r.pos).2.1+r.l+(ql s (zj s r.pos).1 r (r.pos+(zj s r.pos).2.1) (zj s r.pos).2.2.1).1,0)):=Lib.hid rfl
 generalize xd s r=DP at *
 generalize zM r=E at *
 generalize zj s r.pos=Q at *
 obtain ⟨h,n,lt,e0⟩:=Q
 dsimp only at HRD0 HAG0 HTO0 HWH0 HDD HRP
 generalize ky h r=A at *
 have HTL:=Lib.hid (Qc s h r (r.pos+(n:Nat)) lt)
 generalize ql s h r (r.pos+(n:Nat)) lt=TP at *
 obtain ⟨tl,tw⟩:=TP
 generalize hDg:s.extract (r.pos+(n:Nat)).toNat (r.pos+(n:Nat)+r.l).toNat=D at *
 generalize xJ D r=WP at *
 obtain ⟨wd,ww⟩:=WP
 obtain ⟨hp,hm,hs,hl,hw,hk,hd,ht,ho⟩:=h
 obtain ⟨p,m,sum,l,wh,k,md,t,pos⟩:=r
 unfold RecD.v at HRT HAG0 HTO0 HWH0
 unfold XG RecD.v at HRD0
 dsimp only at HTL HRT HRD0 HAG0 HTO0 HWH0 HRP HBD HDD hDg
 have HRD:=Lib.hid HRD0
 have HAG:=Lib.hid HAG0
 have HTO:=Lib.hid HTO0
 have HDE:=Lib.hid hDg
 have HWH1:=Lib.hid HWH0
 clear HRD0 HAG0 HTO0 HWH0 hDg hr
 unfold RecD.v
 dsimp only
 have HB:=Lib.hid (Blk.new w [.string p,.int .i64 m,.int .u32 (sum:Nat),.int .i64 l,.int .i64 wh,.int .i64 k,.int .i64 md,.int .u32 (t:Nat),.int .i64 pos] 52)
 have HU:=Lib.hid ((Upd.refl [] w).alloc (.cells #[.string p,.int .i64 m,.int .u32 (sum:Nat),.int .i64 l,.int .i64 wh,.int .i64 k,.int .i64 md,.int .u32 (t:Nat),.int .i64 pos] 52))
 go_enter Tryz.func118,Tryz.ntmps118
 go_upto_region 1 with fail
 change Code.wp _ _ _ _ (w.alloc (.cells #[.string p,.int .i64 m,.int .u32 (sum:Nat),.int .i64 l,.int .i64 wh,.int .i64 k,.int .i64 md,.int .u32 (t:Nat),.int .i64 pos] 52))
 generalize w.alloc (.cells #[.string p,.int .i64 m,.int .u32 (sum:Nat),.int .i64 l,.int .i64 wh,.int .i64 k,.int .i64 md,.int .u32 (t:Nat),.int .i64 pos] 52)=w1 at *
 generalize w.heap.size=g at *
 have kA:=HB.out.all
 have k3:=HB.out.cell 3 rfl
 have k8:=HB.out.cell 8 rfl
 go_wp2_with fail
 refine (HRT.out _).mono ?_
 rintro e w2 ⟨rfl,hu2⟩
 have HB2:=Lib.hid (HB.out.upd hu2 (by simp))
 have HU2:=Lib.hid (HU.out.then hu2)
 clear kA k3 k8 hu2 HB HU HRT
 by_cases h0:E=0
 rotate_left
 · have e1:(((E:Nat):Int) != 0)=true:=by rw [bne_iff_ne]; omega
   have HV:=Lib.hid (HDD.out.trans (if_pos h0))
   clear h0
   go_wp2
   go_returns
   exact ⟨by rw [HV.out]; rfl,HU2.out⟩
 have HD1:=Lib.hid (HDD.out.trans (if_neg (by simp [h0])))
 have hb:=HBD.out h0
 obtain ⟨hb1,hb2,hb3,hb4⟩:=hb
 have HBK:=Lib.hid hb4
 subst h0
 clear HDD HBD hb4
 have k8:=HB2.out.cell 8 rfl
 go_wp2_with fail
 refine (HRD.out _).mono ?_
 rintro e w3 ⟨rfl,hu3⟩
 have HB3:=Lib.hid ((HB2.out.upd hu3 (by simp)).alloc (.cells #[.string hp,.int .i64 hm,.int .u32 (hs:Nat),.int .i64 hl,.int .i64 hw,.int .i64 hk,.int .i64 hd,.int .u32 (ht:Nat),.int .i64 ho] 52))
 have HU3:=Lib.hid ((HU2.out.then hu3).alloc (.cells #[.string hp,.int .i64 hm,.int .u32 (hs:Nat),.int .i64 hl,.int .i64 hw,.int .i64 hk,.int .i64 hd,.int .u32 (ht:Nat),.int .i64 ho] 52))
 have HC3:=Lib.hid (Blk.new w3 [.string hp,.int .i64 hm,.int .u32 (hs:Nat),.int .i64 hl,.int .i64 hw,.int .i64 hk,.int .i64 hd,.int .u32 (ht:Nat),.int .i64 ho] 52)
 clear k8 hu3 HB2 HU2 HRD
 go_upto_region 4 with fail
 change Code.wp _ _ _ _ (w3.alloc (.cells #[.string hp,.int .i64 hm,.int .u32 (hs:Nat),.int .i64 hl,.int .i64 hw,.int .i64 hk,.int .i64 hd,.int .u32 (ht:Nat),.int .i64 ho] 52))
 generalize w3.alloc (.cells #[.string hp,.int .i64 hm,.int .u32 (hs:Nat),.int .i64 hl,.int .i64 hw,.int .i64 hk,.int .i64 hd,.int .u32 (ht:Nat),.int .i64 ho] 52)=w4 at *
 generalize w3.heap.size=c at *
 by_cases h1:e0=0
 rotate_left
 · have e1:(((e0:Nat):Int) != 0)=true:=by rw [bne_iff_ne]; omega
   have HV:=Lib.hid (HD1.out.trans (if_pos h1))
   clear h1
   go_wp2
   go_returns
   exact ⟨by rw [HV.out]; rfl,HU3.out⟩
 have HD2:=Lib.hid (HD1.out.trans (if_neg (by simp [h1])))
 obtain ⟨hp1,hp2,hp3,hp4⟩:=HRP.out h1
 subst h1
 clear HD1 HRP
 obtain ⟨f,hf⟩ : ∃ f,pos+(n:Int)=f:=⟨_,rfl⟩
 have hw1:IntKind.i64.wrap (pos+(n:Int))=f:=by rw [← hf]; exact IntWalk.i64_in _ (by omega)
 rw [hf] at HTO HD2 HDE
 have hf0:0≤f∧f≤(s.size:Int):=by omega
 have HPN:=Lib.hid hp4
 clear hf hp1 hp4
 have kA:=HB3.out.all
 have k3:=HB3.out.cell 3 rfl
 have aA:=HC3.out.all
 have k8:=HB3.out.cell 8 rfl
 go_wp2_with fail
 refine (HAG.out _).mono ?_
 rintro e w5 ⟨rfl,hu5⟩
 have HB4:=Lib.hid (HB3.out.upd hu5 (by simp))
 have HC4:=Lib.hid (HC3.out.upd hu5 (by simp))
 have HU4:=Lib.hid (HU3.out.then hu5)
 clear kA k3 k8 aA hu5 HB3 HU3 HC3 HAG hw1
 cases A with
 | false =>
   have HV:=Lib.hid (HD2.out.trans (if_pos rfl))
   go_wp2
   go_returns
   exact ⟨by rw [HV.out]; rfl,HU4.out⟩
 | true =>
 have HD3:=Lib.hid (HD2.out.trans (if_neg (by simp)))
 clear HD2
 have kA:=HB4.out.all
 have k3:=HB4.out.cell 3 rfl
 have k8:=HB4.out.cell 8 rfl
 have aA:=HC4.out.all
 go_wp2_with fail
 refine (HTO.out _ (by omega) (by omega)).mono ?_
 rintro e w6 ⟨rfl,hu6⟩
 have HB5:=Lib.hid (HB4.out.upd hu6 (by simp))
 have HU5:=Lib.hid (HU4.out.then hu6)
 clear kA k3 k8 aA hu6 HB4 HU4 HC4 HTO
 by_cases h2:tw=0
 rotate_left
 · have e1:(((tw:Nat):Int) != 0)=true:=by rw [bne_iff_ne]; omega
   have HV:=Lib.hid (HD3.out.trans (if_pos h2))
   clear h2
   go_wp2
   go_returns
   exact ⟨by rw [HV.out]; rfl,HU5.out⟩
 have HD4:=Lib.hid (HD3.out.trans (if_neg (by simp [h2])))
 subst h2
 clear HD3
 have hw2:IntKind.i64.wrap ((s.size:Int)-f)=(s.size:Int)-f:=IntWalk.i64_in _ (by omega)
 have k3:=HB5.out.cell 3 rfl
 by_cases h3:(s.size:Int)-f<l
 · have HV:=Lib.hid (HD4.out.trans (if_pos h3))
   go_wp2
   go_returns
   exact ⟨by rw [HV.out]; rfl,HU5.out⟩
 have HD5:=Lib.hid (HD4.out.trans (if_neg h3))
 have HWF:=Lib.hid (show IntKind.i64.wrap (f+l)=f+l from IntWalk.i64_in _ (by omega))
 have hds:D.size≤1000000:=by rw [← HDE.out,ByteArray.size_extract]; omega
 have HWH:=Lib.hid (fun z=>HWH1.out z hds (by rcases HBK.out with h | h; exact .inl h; exact .inr h.1))
 have hfl:f+l≤(s.size:Int):=by omega
 have HSL:=HDE
 clear HD4 HWH1
 go_upto_region 14 with fail
 clear h3 hw2 k3
 refine wp_region_held_drew (S:=fun w'=>Blk w' g [.string p,.int .i64 m,.int .u32 (sum:Nat),.int .i64 l,.int .i64 wh,.int .i64 k,.int .i64 md,.int .u32 (t:Nat),.int .i64 pos] 52∧Upd [] w w') (by kernel_rfl) ⟨HB5.out.drew,HU5.out.drew⟩ (fun hHeld=>hdN ?_)
 refine hdT 0 (some 59) ?_; refine hdT 1 (some 60) ?_; refine hdT 2 (some 61) ?_; refine hdT 3 (some 62) ?_
 refine hdT 4 (some 63) ?_ (hy:=by intro w0 hSw; have q0:=hSw.1.cell 3 rfl; go_simp; try with_reducible rfl)
 refine hdT 5 (some 64) ?_ (hy:=by intro w0 hSw; go_simp; all_goals rw [HWF.out]) (v := .int .i64 (f+l))
 refine hdT 6 (some 65) ?_ (hy:=by intro w0 hSw; go_simp; all_goals rw [HSL.out,if_pos (by omega),if_pos (by omega)]) (v := .string D)
 refine hdT 7 (some 66) ?_ (hy:=by intro w0 hSw; have qA:=hSw.1.all; go_simp; try with_reducible rfl)
 refine hdO 8 (fun K hK=>?_)
 go_simp
 refine (HWH.out _).mono ?_
 rintro e z1 ⟨rfl,hz1⟩
 go_wp2
 refine hK.out _ _ ⟨hHeld.1.upd hz1 (by simp),hHeld.2.then hz1⟩ (fun hHeld=>hdN ?_)
 clear hK K
 refine hdT 9 (some 58) ?_; refine hdT 10 (some 68) ?_; refine hdT 11 (some 69) ?_; refine hdT 12 (some 13) ?_; refine hdT 13 (some 10) ?_
 refine wpAnyH_done (by kernel_rfl) ?_ 0
 have HB6:=Lib.hid hHeld.1
 have HU6:=Lib.hid hHeld.2
 clear hHeld HB5 HU5 HWH
 by_cases h4:ww=0
 rotate_left
 · have e1:(((ww:Nat):Int) != 0)=true:=by rw [bne_iff_ne]; omega
   have HV:=Lib.hid (HD5.out.trans (if_pos h4))
   clear h4
   go_wp2
   go_returns
   exact ⟨by rw [HV.out]; rfl,HU6.out⟩
 have HV:=Lib.hid (HD5.out.trans (if_neg (by simp [h4])))
 subst h4
 have HWN:=Lib.hid (show IntKind.i64.wrap ((n:Int)+l)=(n:Int)+l from IntWalk.i64_in _ (by omega))
 have HWT:=Lib.hid (show IntKind.i64.wrap ((n:Int)+l+(tl:Nat))=(n:Int)+l+(tl:Nat) from IntWalk.i64_in _ (by have:=HTL.out; omega))
 clear HD5
 go_upto_region 17 with fail
 refine wp_region_held_drew (S:=fun w'=>Blk w' g [.string p,.int .i64 m,.int .u32 (sum:Nat),.int .i64 l,.int .i64 wh,.int .i64 k,.int .i64 md,.int .u32 (t:Nat),.int .i64 pos] 52∧Upd [] w w') (by kernel_rfl) ⟨HB6.out.drew,HU6.out.drew⟩ (fun hHeld=>hdN ?_)
 refine hdT 0 (some 73) ?_; refine hdT 1 (some 74) ?_; refine hdT 2 (some 75) ?_
 refine hdT 3 (some 76) ?_ (hy:=by intro w0 hSw; have q0:=hSw.1.cell 3 rfl; go_simp; try with_reducible rfl)
 refine hdT 4 (some 77) ?_ (hy:=by intro w0 hSw; go_simp; all_goals rw [HWN.out]) (v := .int .i64 ((n:Int)+l)); refine hdT 5 (some 78) ?_
 refine hdT 6 (some 79) ?_ (hy:=by intro w0 hSw; go_simp; all_goals rw [HWT.out]) (v := .int .i64 ((n:Int)+l+(tl:Nat)))
 refine hdT 7 (some 4) ?_; refine hdT 8 (some 5) ?_; refine hdT 9 (some 6) ?_
 refine wpAnyH_done (by kernel_rfl) ?_ 0
 go_wp2
 go_returns
 exact ⟨by rw [HV.out]; rfl,hHeld.2⟩
end Go.Proofs.YtigjingielnaoaaGreatDoor
namespace Go.Proofs.YtigjingielnaoaaGreatDoor
open Go.RowKit
theorem zag:(Tryz.prog.info? 126).map (fun i=>(i.zero,i.size,i.bytes))=some (some (.agg #[.int .i64 0,.int .i64 0]),2,16):=by kernel_rfl
end Go.Proofs.YtigjingielnaoaaGreatDoor
namespace Go.Proofs.YtigjingielnaoaaGreatDoor
open Go.RowKit
set_option maxRecDepth 100000 in
set_option maxHeartbeats 6400000 in
theorem zbF (s:ByteArray) (l:List RecD) (v:Value) (w:World) (hs:s.size≤1000000) (h:kG w v l) (hl : ∀ r∈l,r.Fits) (hn:l.length≤100000) :
 Calls Tryz.prog 79 #[.string s,v] w fun e w'=>(∃ u,e = .returned (.tuple #[u,.int .i64 ((qk s l).2:Nat)])∧Row w' 126 2 u (qk s l).1.length (spC (qk s l).1))∧Upd [] w w':=by
 obtain ⟨i0,hi,hz0,hz1,hz2⟩:=info_parts zag
 have HSZ:=Lib.hid (fun z (hz:Upd [] w z)=>Ws l v z (Zo h hz) hl hn)
 have hd:=vF l (fun r hr=>(hl r hr).p)
 have HLV:Hid (qk s l=Jy s ((s.size:Int)-(qh l:Nat)-22) (l.drop 0) []):=Lib.hid (by rw [List.drop_zero]; rfl)
 generalize qk s l=LP at *
 obtain ⟨a,cap,rfl,h⟩:=h
 have H:=Lib.hid h
 have HL:=Lib.hid hl
 clear h hl
 obtain ⟨n,hnn⟩ : ∃ n,l.length=n:=⟨_,rfl⟩
 rw [hnn] at hn hd HSZ ⊢
 have HN:=Lib.hid hnn
 clear hnn
 obtain ⟨E,hE⟩ : ∃ E,(s.size:Int)-(qh l:Nat)-22=E:=⟨_,rfl⟩
 have hw1:IntKind.i64.wrap ((s.size:Int)-(qh l:Nat))=(s.size:Int)-(qh l:Nat):=IntWalk.i64_in _ (by omega)
 have hw2:IntKind.i64.wrap ((s.size:Int)-(qh l:Nat)-22)=E:=by rw [← hE]; exact IntWalk.i64_in _ (by omega)
 rw [hE] at HLV
 clear hE
 go_enter Tryz.func79,Tryz.ntmps79
 go_wp2_with fail
 refine (HSZ.out _ (Upd.refl _ _)).mono ?_
 rintro e w2 ⟨rfl,hu2⟩
 have HU2:=Lib.hid hu2
 clear hu2 HSZ
 generalize qh l=dl at *
 go_wp2
 go_loopg [4,22] n (fun gg v4 s22 wr => ∃ (i:Nat) (out:List (Int×Int)),i≤n∧gg=n-i∧s22 = .int .i64 (i:Nat)∧out.length≤i∧Hid (LP=Jy s E (l.drop i) out)∧Hid (Row wr 126 2 v4 out.length (spC out))∧Hid (∀ b,v4.ownBlock=some b→w.heap.size≤b)∧Hid (Upd [] w wr))
 case atStart=>exact ⟨0,[],Nat.zero_le _,rfl,rfl,Nat.zero_le _,HLV,Lib.hid (Row.nil _ _ _),Lib.hid (by simp [Value.ownBlock]),HU2⟩
 case round =>
  obtain ⟨i,out,hin,rfl,rfl,ho,HE,HR,HO,HU⟩:=hrel
  obtain ⟨va,vc,hvf⟩:=HR.out.form
  subst hvf
  by_cases hc:i<n
  · have hcz:(i:Int)<(n:Int):=by omega
    have hil:i<l.length:=by rw [HN.out]; exact hc
    obtain ⟨b1,o1,rfl,g1⟩:=H.out i hil
    obtain ⟨r,hr⟩ : ∃ r,r=l[i]:=⟨_,rfl⟩
    rw [← hr] at g1
    have hf:r.Fits:=HL.out r (by rw [hr]; exact List.getElem_mem hil)
    have HDT0:=fun z=>zcG s r z hs hf
    have HBD:=Lib.hid (fun h=>VN s r hs h)
    have HST:Hid (LP=if (xd s r).2.2≠0 then ([],(xd s r).2.2)
     else if E<r.pos+(xd s r).2.1∨out.any (yK (r.pos,r.pos+(xd s r).2.1))=true then ([],2)
     else Jy s E (l.drop (i+1)) (out++[(r.pos,r.pos+(xd s r).2.1)])):=Lib.hid (by rw [HE.out,List.drop_eq_getElem_cons hil,← hr]; rfl)
    have HCA:=Lib.hid (fun f x h=>HU.out.keep (g1 f x h))
    clear g1 hf hr HE
    unfold WQ at HDT0
    generalize xd s r=X at *
    obtain ⟨dx,nx,wx⟩:=X
    obtain ⟨p,m,sum,l2,wh,k,md,t,pos⟩:=r
    unfold RecD.v at HDT0
    unfold RecD.cells at HCA
    dsimp only at HDT0 HCA HBD HST
    have HDT:=Lib.hid HDT0
    clear HDT0
    have hw3:IntKind.i64.wrap ((i:Int)+1)=(i:Int)+1:=IntWalk.i64_in _ (by omega)
    have c0:=HCA.out 0 (.string p) rfl
    have c1:=HCA.out 1 (.int .i64 m) rfl
    have c2:=HCA.out 2 (.int .u32 (sum:Nat)) rfl
    have c3:=HCA.out 3 (.int .i64 l2) rfl
    have c4:=HCA.out 4 (.int .i64 wh) rfl
    have c5:=HCA.out 5 (.int .i64 k) rfl
    have c6:=HCA.out 6 (.int .i64 md) rfl
    have c7:=HCA.out 7 (.int .u32 (t:Nat)) rfl
    have c8:=HCA.out 8 (.int .i64 pos) rfl
    simp only [Nat.add_zero] at c0
    have HB:=Lib.hid (Blk.new wr [.string p,.int .i64 m,.int .u32 (sum:Nat),.int .i64 l2,.int .i64 wh,.int .i64 k,.int .i64 md,.int .u32 (t:Nat),.int .i64 pos] 52)
    have HU1:=Lib.hid (HU.out.alloc (.cells #[.string p,.int .i64 m,.int .u32 (sum:Nat),.int .i64 l2,.int .i64 wh,.int .i64 k,.int .i64 md,.int .u32 (t:Nat),.int .i64 pos] 52))
    have HR1:=Lib.hid (HR.out.alloc (.cells #[.string p,.int .i64 m,.int .u32 (sum:Nat),.int .i64 l2,.int .i64 wh,.int .i64 k,.int .i64 md,.int .u32 (t:Nat),.int .i64 pos] 52))
    have HW1:=Lib.hid (show w.heap.size≤wr.heap.size from HU.out.size)
    go_upto_region 5 with fail
    change Code.wp _ _ _ _ (wr.alloc (.cells #[.string p,.int .i64 m,.int .u32 (sum:Nat),.int .i64 l2,.int .i64 wh,.int .i64 k,.int .i64 md,.int .u32 (t:Nat),.int .i64 pos] 52))
    generalize wr.alloc (.cells #[.string p,.int .i64 m,.int .u32 (sum:Nat),.int .i64 l2,.int .i64 wh,.int .i64 k,.int .i64 md,.int .u32 (t:Nat),.int .i64 pos] 52)=w3 at *
    generalize wr.heap.size=q at *
    clear c0 c1 c2 c3 c4 c5 c6 c7 c8 HCA HU HR
    have kA:=HB.out.all
    have k8:=HB.out.cell 8 rfl
    go_wp2_with fail
    refine (HDT.out _).mono ?_
    rintro e w4 ⟨rfl,hu4⟩
    have HB4:=Lib.hid (HB.out.upd hu4 (by simp))
    have HU4:=Lib.hid (HU1.out.then hu4)
    have HR4:=Lib.hid (HR1.out.upd hu4 (by simp))
    clear kA k8 hu4 HB HU1 HR1 HDT
    by_cases h1:wx=0
    rotate_left
    · have e1:(((wx:Nat):Int) != 0)=true:=by rw [bne_iff_ne]; omega
      have HV:=Lib.hid (HST.out.trans (if_pos h1))
      clear h1
      go_wp2
      go_returns
      exact ⟨⟨_,by rw [HV.out]; rfl,by rw [HV.out]; exact Row.nil _ _ _⟩,HU4.out⟩
    have HS1:=Lib.hid (HST.out.trans (if_neg (by simp [h1])))
    obtain ⟨hp1,hp2,hp3⟩:=HBD.out h1
    subst h1
    clear HBD HST
    obtain ⟨y,hy⟩ : ∃ y,pos+nx=y:=⟨_,rfl⟩
    have hw4:IntKind.i64.wrap (pos+nx)=y:=by rw [← hy]; exact IntWalk.i64_in _ (by omega)
    rw [hy] at HS1
    have hyb:0≤y∧y≤6000000000:=by omega
    clear hy hp1 hp2 hp3
    have k8:=HB4.out.cell 8 rfl
    have HX:=Lib.hid (Blk.new w4 [.int .i64 pos,.int .i64 y] 126)
    have HU5:=Lib.hid (HU4.out.alloc (.cells #[.int .i64 pos,.int .i64 y] 126))
    have HR5:=Lib.hid (HR4.out.alloc (.cells #[.int .i64 pos,.int .i64 y] 126))
    go_upto_region 10 with fail
    change Code.wp _ _ _ _ (w4.alloc (.cells #[.int .i64 pos,.int .i64 y] 126))
    generalize w4.alloc (.cells #[.int .i64 pos,.int .i64 y] 126)=w5 at *
    generalize w4.heap.size=c at *
    clear k8 hw4 HB4 HU4 HR4
    have c0:=HX.out.cell 0 rfl
    have c1:=HX.out.cell 1 rfl
    by_cases h2:E<y
    · have HV:=Lib.hid (HS1.out.trans (if_pos (.inl h2)))
      go_wp2
      go_returns
      exact ⟨⟨_,by rw [HV.out]; rfl,by rw [HV.out]; exact Row.nil _ _ _⟩,HU5.out⟩
    have HCT:=Lib.hid (Zs out (.slice va out.length vc) c (pos,y) w5 (Row.spAt HR5.out) (by omega) HX.out)
    have hq2 : ∀ B,out.any (yK (pos,y))=B→(E<y∨out.any (yK (pos,y))=true↔B=true):=fun B h=>by rw [h]; simp [h2]
    obtain ⟨B,hB⟩ : ∃ B,out.any (yK (pos,y))=B:=⟨_,rfl⟩
    have HQ:=Lib.hid (hq2 B hB)
    rw [hB] at HCT
    clear hq2 hB
    cases B with
    | true =>
      have HV:=Lib.hid (HS1.out.trans (if_pos (HQ.out.2 rfl)))
      go_wp2_with fail
      refine HCT.out.mono ?_
      rintro e w6 ⟨rfl,hu6⟩
      have HU6:=Lib.hid (HU5.out.then hu6)
      clear c0 c1 hu6
      go_wp2
      go_returns
      exact ⟨⟨_,by rw [HV.out]; rfl,by rw [HV.out]; exact Row.nil _ _ _⟩,HU6.out⟩
    | false =>
      have HV:=Lib.hid (HS1.out.trans (if_neg (fun h=>by have:=HQ.out.1 h; cases this)))
      clear HS1 HQ
      go_wp2_with fail
      refine HCT.out.mono ?_
      rintro e w6 ⟨rfl,hu6⟩
      have HX6:=Lib.hid (HX.out.upd hu6 (by simp))
      have HR6:=Lib.hid (HR5.out.upd hu6 (by simp))
      have HU6:=Lib.hid (HU5.out.then hu6)
      have HO6:=HO
      clear c0 c1 hu6 HX HR5 HU5 HCT h2
      have c0:=HX6.out.cell 0 rfl
      have c1:=HX6.out.cell 1 rfl
      generalize hol:out.length=ol at *
      go_wp2_with (at_builtin; refine zE _ rfl _ _ 77 rfl 126 i0 _ 2 16 Tryz.underlying77 hi hz0 hz1 hz2 rfl (by omega) (.slice va ol vc) ol _ rfl (HR6.out.alloc _) ⟨w6.heap.size,0,none⟩ 1 1 [.int .i64 pos,.int .i64 y] rfl rfl (World.news_of_block (cs := #[.int .i64 pos,.int .i64 y]) (t:=126) (fr:=(0,0)) (heap_alloc_new _ _)) (by simp [Value.oneCell']) (by unfold maxLen; omega) (by omega) ?_)
      rintro v9 w9 hR9 hU9 hT9
      obtain ⟨va9,vc9,rfl⟩:=hR9.form
      have HF:Hid (Row w9 126 2 (.slice va9 (ol+1) vc9) (out++[(pos,y)]).length (spC (out++[(pos,y)]))∧(∀ b,(Value.slice va9 (ol+1) vc9).ownBlock=some b→w.heap.size≤b)∧Upd [] w w9):=Lib.hid ⟨by
       rw [List.length_append,VB,hol]; exact hR9,fun b hb=>by
       have:=HU6.out.size
       rcases hT9 with e | ⟨g,e1,e2⟩
       · exact HO6.out b (by rw [← e]; exact hb)
       · rw [hb] at e1; simp at e1 e2; omega,(HU6.out.then ((Upd.refl _ _).alloc _)).trans hU9 (fun k hk => .inr (HO6.out k (by simpa using hk)))⟩
      have HOL:=Lib.hid hol
      clear hR9 hU9 hT9 HR6 HU6 HO HO6 c0 c1 hol
      go_wp2
      go_roundg (n-(i+1))
      all_goals first
       | omega
       | exact ⟨i+1,out++[(pos,y)],by omega,rfl,by first | rfl | go_num,by simp; have:=HOL.out; omega,HV,Lib.hid HF.out.1,Lib.hid HF.out.2.1,Lib.hid HF.out.2.2⟩
  · have hcz : ¬ (i:Int)<(n:Int):=by omega
    obtain rfl:i=n:=by omega
    have HV:Hid (LP=(out,0)):=Lib.hid (by rw [HE.out,List.drop_of_length_le (by rw [HN.out]; omega)]; rfl)
    go_wp2
    go_returns
    exact ⟨⟨_,by rw [HV.out]; rfl,by rw [HV.out]; exact HR.out⟩,HU.out⟩
end Go.Proofs.YtigjingielnaoaaGreatDoor
