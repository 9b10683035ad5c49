/- Package entry: Data: its walk. -/
import Derived.Test.YtfkcdnaghndgfaaGreatDoorQAU
import Derived.Test.YtfkcdnaghndgfaaGreatDoorQAV
import Derived.Test.YtfkcdnaghndgfaaGreatDoorQAW
import Derived.Test.YtfkcdnaghndgfaaGreatDoorQAR
import Derived.Lib.MinMax
import Derived.Test.YtfkcdnaghndgfaaGreatDoorQAC
import Derived.Test.YtfkcdnaghndgfaaGreatDoorCopy
import Derived.Test.YtfkcdnaghndgfaaGreatDoorQAM
import Derived.Test.YtfkcdnaghndgfaaGreatDoorQAE
import Derived.Test.YtfkcdnaghndgfaaGreatDoorQAL
set_option linter.unusedVariables false
set_option linter.unusedSimpArgs false
set_option linter.unusedSectionVars false
namespace Go.Proofs.YtfkcdnaghndgfaaGreatDoor
open Go.RowKit
set_option maxRecDepth 100000 in
set_option maxHeartbeats 6400000 in
theorem WF (s:ByteArray) (r:RecD) (w:World) (hs:s.size≤1000000) (hr:r.Fits) :
 Calls Tryz.prog 14 #[.string s,r.v] w fun e w'=>e = .returned (zf1 (qU s r))∧Upd [] w w':=by
 have HRT:=Lib.hid (fun z=>JX r z hr)
 have HRD0:=fun z=>zaz s r.pos z hs
 have HRP:=Lib.hid (zeA (s:=s) (a:=r.pos))
 have HBD:=Lib.hid (fun h=>zeF (r:=r) h)
 have HAG0:=fun z=>zdr (zy s r.pos).1 r z
 have HTO0:=fun z h1 h2=>zdk s (zy s r.pos).1 r (r.pos+(zy s r.pos).2.1) (zy s r.pos).2.2.1 z hs h1 h2
 have HWH0:=fun z h1 h2=>zeC (s.extract (r.pos+(zy s r.pos).2.1).toNat (r.pos+(zy s r.pos).2.1+r.l).toNat) r z h1 h2
 have HDD:Hid (qU s r=if yu r≠0 then (⟨#[]⟩,0,1)
  else if (zy s r.pos).2.2.2≠0 then (⟨#[]⟩,0,(zy s r.pos).2.2.2)
  else if vQ (zy s r.pos).1 r=false then (⟨#[]⟩,0,2)
  else if (qn s (zy s r.pos).1 r (r.pos+(zy s r.pos).2.1) (zy s r.pos).2.2.1).2≠0 then (⟨#[]⟩,0,(qn s (zy s r.pos).1 r (r.pos+(zy s r.pos).2.1) (zy s r.pos).2.2.1).2)
  else if (s.size:Int)-(r.pos+(zy s r.pos).2.1)<r.l then (⟨#[]⟩,0,3)
  else if (qF (s.extract (r.pos+(zy s r.pos).2.1).toNat (r.pos+(zy s r.pos).2.1+r.l).toNat) r).2≠0 then (⟨#[]⟩,0,(qF (s.extract (r.pos+(zy s r.pos).2.1).toNat (r.pos+(zy s r.pos).2.1+r.l).toNat) r).2)
  else ((qF (s.extract (r.pos+(zy s r.pos).2.1).toNat (r.pos+(zy s r.pos).2.1+r.l).toNat) r).1,(zy s r.pos).2.1+r.l+(qn s (zy s r.pos).1 r (r.pos+(zy s r.pos).2.1) (zy s r.pos).2.2.1).1,0)):=Lib.hid rfl
 generalize qU s r=DP at *
 generalize yu r=E at *
 generalize zy s r.pos=Q at *
 obtain ⟨h,n,lt,e0⟩:=Q
 dsimp only at HRD0 HAG0 HTO0 HWH0 HDD HRP
 generalize vQ h r=A at *
 have HTL:=Lib.hid (zfl s h r (r.pos+(n:Nat)) lt)
 generalize qn s h r (r.pos+(n:Nat)) lt=TP at *
 obtain ⟨tl,tw⟩:=TP
 generalize hDg:s.extract (r.pos+(n:Nat)).toNat (r.pos+(n:Nat)+r.l).toNat=D at *
 generalize qF D r=WP at *
 obtain ⟨wd,ww⟩:=WP
 obtain ⟨hp,hm,hs,hl,hw,hk,hd,ht,ho⟩:=h
 obtain ⟨p,m,sum,l,wh,k,md,t,pos⟩:=r
 unfold RecD.v at HRT HAG0 HTO0 HWH0
 unfold zgA RecD.v at HRD0
 dsimp only at HTL HRT HRD0 HAG0 HTO0 HWH0 HRP HBD HDD hDg
 have HRD:=Lib.hid HRD0
 have HAG:=Lib.hid HAG0
 have HTO:=Lib.hid HTO0
 have HDE:=Lib.hid hDg
 have HWH1:=Lib.hid HWH0
 clear HRD0 HAG0 HTO0 HWH0 hDg hr
 unfold RecD.v
 dsimp only
 have HB:=Lib.hid (Blk.new w [.string p,.int .i64 m,.int .u32 (sum:Nat),.int .i64 l,.int .i64 wh,.int .i64 k,.int .i64 md,.int .u32 (t:Nat),.int .i64 pos] 26)
 have HU:=Lib.hid ((Upd.refl [] w).alloc (.cells #[.string p,.int .i64 m,.int .u32 (sum:Nat),.int .i64 l,.int .i64 wh,.int .i64 k,.int .i64 md,.int .u32 (t:Nat),.int .i64 pos] 26))
 go_enter Tryz.func14,Tryz.ntmps14
 go_upto_region 1 with fail
 change Code.wp _ _ _ _ (w.alloc (.cells #[.string p,.int .i64 m,.int .u32 (sum:Nat),.int .i64 l,.int .i64 wh,.int .i64 k,.int .i64 md,.int .u32 (t:Nat),.int .i64 pos] 26))
 generalize w.alloc (.cells #[.string p,.int .i64 m,.int .u32 (sum:Nat),.int .i64 l,.int .i64 wh,.int .i64 k,.int .i64 md,.int .u32 (t:Nat),.int .i64 pos] 26)=w1 at *
 generalize w.heap.size=g at *
 have kA:=HB.out.all
 have k3:=HB.out.cell 3 rfl
 have k8:=HB.out.cell 8 rfl
 go_wp2_with fail
 refine (HRT.out _).mono ?_
 rintro e w2 ⟨rfl,hu2⟩
 have HB2:=Lib.hid (HB.out.upd hu2 (by simp))
 have HU2:=Lib.hid (HU.out.then hu2)
 clear kA k3 k8 hu2 HB HU HRT
 by_cases h0:E=0
 rotate_left
 · have e1:(((E:Nat):Int) != 0)=true:=by rw [bne_iff_ne]; omega
   have HV:=Lib.hid (HDD.out.trans (if_pos h0))
   clear h0
   go_wp2
   go_returns
   exact ⟨by rw [HV.out]; rfl,HU2.out⟩
 have HD1:=Lib.hid (HDD.out.trans (if_neg (by simp [h0])))
 have hb:=HBD.out h0
 obtain ⟨hb1,hb2,hb3,hb4⟩:=hb
 have HBK:=Lib.hid hb4
 subst h0
 clear HDD HBD hb4
 have k8:=HB2.out.cell 8 rfl
 go_wp2_with fail
 refine (HRD.out _).mono ?_
 rintro e w3 ⟨rfl,hu3⟩
 have HB3:=Lib.hid ((HB2.out.upd hu3 (by simp)).alloc (.cells #[.string hp,.int .i64 hm,.int .u32 (hs:Nat),.int .i64 hl,.int .i64 hw,.int .i64 hk,.int .i64 hd,.int .u32 (ht:Nat),.int .i64 ho] 26))
 have HU3:=Lib.hid ((HU2.out.then hu3).alloc (.cells #[.string hp,.int .i64 hm,.int .u32 (hs:Nat),.int .i64 hl,.int .i64 hw,.int .i64 hk,.int .i64 hd,.int .u32 (ht:Nat),.int .i64 ho] 26))
 have HC3:=Lib.hid (Blk.new w3 [.string hp,.int .i64 hm,.int .u32 (hs:Nat),.int .i64 hl,.int .i64 hw,.int .i64 hk,.int .i64 hd,.int .u32 (ht:Nat),.int .i64 ho] 26)
 clear k8 hu3 HB2 HU2 HRD
 go_upto_region 4 with fail
 change Code.wp _ _ _ _ (w3.alloc (.cells #[.string hp,.int .i64 hm,.int .u32 (hs:Nat),.int .i64 hl,.int .i64 hw,.int .i64 hk,.int .i64 hd,.int .u32 (ht:Nat),.int .i64 ho] 26))
 generalize w3.alloc (.cells #[.string hp,.int .i64 hm,.int .u32 (hs:Nat),.int .i64 hl,.int .i64 hw,.int .i64 hk,.int .i64 hd,.int .u32 (ht:Nat),.int .i64 ho] 26)=w4 at *
 generalize w3.heap.size=c at *
 by_cases h1:e0=0
 rotate_left
 · have e1:(((e0:Nat):Int) != 0)=true:=by rw [bne_iff_ne]; omega
   have HV:=Lib.hid (HD1.out.trans (if_pos h1))
   clear h1
   go_wp2
   go_returns
   exact ⟨by rw [HV.out]; rfl,HU3.out⟩
 have HD2:=Lib.hid (HD1.out.trans (if_neg (by simp [h1])))
 obtain ⟨hp1,hp2,hp3,hp4⟩:=HRP.out h1
 subst h1
 clear HD1 HRP
 obtain ⟨f,hf⟩ : ∃ f,pos+(n:Int)=f:=⟨_,rfl⟩
 have hw1:IntKind.i64.wrap (pos+(n:Int))=f:=by rw [← hf]; exact IntWalk.i64_in _ (by omega)
 rw [hf] at HTO HD2 HDE
 have hf0:0≤f∧f≤(s.size:Int):=by omega
 have HPN:=Lib.hid hp4
 clear hf hp1 hp4
 have kA:=HB3.out.all
 have k3:=HB3.out.cell 3 rfl
 have aA:=HC3.out.all
 have k8:=HB3.out.cell 8 rfl
 go_wp2_with fail
 refine (HAG.out _).mono ?_
 rintro e w5 ⟨rfl,hu5⟩
 have HB4:=Lib.hid (HB3.out.upd hu5 (by simp))
 have HC4:=Lib.hid (HC3.out.upd hu5 (by simp))
 have HU4:=Lib.hid (HU3.out.then hu5)
 clear kA k3 k8 aA hu5 HB3 HU3 HC3 HAG hw1
 cases A with
 | false =>
   have HV:=Lib.hid (HD2.out.trans (if_pos rfl))
   go_wp2
   go_returns
   exact ⟨by rw [HV.out]; rfl,HU4.out⟩
 | true =>
 have HD3:=Lib.hid (HD2.out.trans (if_neg (by simp)))
 clear HD2
 have kA:=HB4.out.all
 have k3:=HB4.out.cell 3 rfl
 have k8:=HB4.out.cell 8 rfl
 have aA:=HC4.out.all
 go_wp2_with fail
 refine (HTO.out _ (by omega) (by omega)).mono ?_
 rintro e w6 ⟨rfl,hu6⟩
 have HB5:=Lib.hid (HB4.out.upd hu6 (by simp))
 have HU5:=Lib.hid (HU4.out.then hu6)
 clear kA k3 k8 aA hu6 HB4 HU4 HC4 HTO
 by_cases h2:tw=0
 rotate_left
 · have e1:(((tw:Nat):Int) != 0)=true:=by rw [bne_iff_ne]; omega
   have HV:=Lib.hid (HD3.out.trans (if_pos h2))
   clear h2
   go_wp2
   go_returns
   exact ⟨by rw [HV.out]; rfl,HU5.out⟩
 have HD4:=Lib.hid (HD3.out.trans (if_neg (by simp [h2])))
 subst h2
 clear HD3
 have hw2:IntKind.i64.wrap ((s.size:Int)-f)=(s.size:Int)-f:=IntWalk.i64_in _ (by omega)
 have k3:=HB5.out.cell 3 rfl
 by_cases h3:(s.size:Int)-f<l
 · have HV:=Lib.hid (HD4.out.trans (if_pos h3))
   go_wp2
   go_returns
   exact ⟨by rw [HV.out]; rfl,HU5.out⟩
 have HD5:=Lib.hid (HD4.out.trans (if_neg h3))
 have HWF:=Lib.hid (show IntKind.i64.wrap (f+l)=f+l from IntWalk.i64_in _ (by omega))
 have hds:D.size≤1000000:=by rw [← HDE.out,ByteArray.size_extract]; omega
 have HWH:=Lib.hid (fun z=>HWH1.out z hds (by rcases HBK.out with h | h; exact .inl h; exact .inr h.1))
 have hfl:f+l≤(s.size:Int):=by omega
 have HSL:=HDE
 clear HD4 HWH1
 go_upto_region 14 with fail
 clear h3 hw2 k3
 refine wp_region_held_drew (S:=fun w'=>Blk w' g [.string p,.int .i64 m,.int .u32 (sum:Nat),.int .i64 l,.int .i64 wh,.int .i64 k,.int .i64 md,.int .u32 (t:Nat),.int .i64 pos] 26∧Upd [] w w') (by kernel_rfl) ⟨HB5.out.drew,HU5.out.drew⟩ (fun hHeld=>hdN ?_)
 refine hdT 0 (some 59) ?_; refine hdT 1 (some 60) ?_; refine hdT 2 (some 61) ?_; refine hdT 3 (some 62) ?_
 refine hdT 4 (some 63) ?_ (hy:=by intro w0 hSw; have q0:=hSw.1.cell 3 rfl; go_simp; try with_reducible rfl)
 refine hdT 5 (some 64) ?_ (hy:=by intro w0 hSw; go_simp; all_goals rw [HWF.out]) (v := .int .i64 (f+l))
 refine hdT 6 (some 65) ?_ (hy:=by intro w0 hSw; go_simp; all_goals rw [HSL.out,if_pos (by omega),if_pos (by omega)]) (v := .string D)
 refine hdT 7 (some 66) ?_ (hy:=by intro w0 hSw; have qA:=hSw.1.all; go_simp; try with_reducible rfl)
 refine hdO 8 (fun K hK=>?_)
 go_simp
 refine (HWH.out _).mono ?_
 rintro e z1 ⟨rfl,hz1⟩
 go_wp2
 refine hK.out _ _ ⟨hHeld.1.upd hz1 (by simp),hHeld.2.then hz1⟩ (fun hHeld=>hdN ?_)
 clear hK K
 refine hdT 9 (some 58) ?_; refine hdT 10 (some 68) ?_; refine hdT 11 (some 69) ?_; refine hdT 12 (some 13) ?_; refine hdT 13 (some 10) ?_
 refine wpAnyH_done (by kernel_rfl) ?_ 0
 have HB6:=Lib.hid hHeld.1
 have HU6:=Lib.hid hHeld.2
 clear hHeld HB5 HU5 HWH
 by_cases h4:ww=0
 rotate_left
 · have e1:(((ww:Nat):Int) != 0)=true:=by rw [bne_iff_ne]; omega
   have HV:=Lib.hid (HD5.out.trans (if_pos h4))
   clear h4
   go_wp2
   go_returns
   exact ⟨by rw [HV.out]; rfl,HU6.out⟩
 have HV:=Lib.hid (HD5.out.trans (if_neg (by simp [h4])))
 subst h4
 have HWN:=Lib.hid (show IntKind.i64.wrap ((n:Int)+l)=(n:Int)+l from IntWalk.i64_in _ (by omega))
 have HWT:=Lib.hid (show IntKind.i64.wrap ((n:Int)+l+(tl:Nat))=(n:Int)+l+(tl:Nat) from IntWalk.i64_in _ (by have:=HTL.out; omega))
 clear HD5
 go_upto_region 17 with fail
 refine wp_region_held_drew (S:=fun w'=>Blk w' g [.string p,.int .i64 m,.int .u32 (sum:Nat),.int .i64 l,.int .i64 wh,.int .i64 k,.int .i64 md,.int .u32 (t:Nat),.int .i64 pos] 26∧Upd [] w w') (by kernel_rfl) ⟨HB6.out.drew,HU6.out.drew⟩ (fun hHeld=>hdN ?_)
 refine hdT 0 (some 73) ?_; refine hdT 1 (some 74) ?_; refine hdT 2 (some 75) ?_
 refine hdT 3 (some 76) ?_ (hy:=by intro w0 hSw; have q0:=hSw.1.cell 3 rfl; go_simp; try with_reducible rfl)
 refine hdT 4 (some 77) ?_ (hy:=by intro w0 hSw; go_simp; all_goals rw [HWN.out]) (v := .int .i64 ((n:Int)+l)); refine hdT 5 (some 78) ?_
 refine hdT 6 (some 79) ?_ (hy:=by intro w0 hSw; go_simp; all_goals rw [HWT.out]) (v := .int .i64 ((n:Int)+l+(tl:Nat)))
 refine hdT 7 (some 4) ?_; refine hdT 8 (some 5) ?_; refine hdT 9 (some 6) ?_
 refine wpAnyH_done (by kernel_rfl) ?_ 0
 go_wp2
 go_returns
 exact ⟨by rw [HV.out]; rfl,hHeld.2⟩
end Go.Proofs.YtfkcdnaghndgfaaGreatDoor
namespace Go.Proofs.YtfkcdnaghndgfaaGreatDoor
open Go.RowKit
def lAt:List Nat:=[3,4,5,6,7,8,9,10,11,13,15,17,19,23,27,31,35,43,51,59,67,83,99,115,131,163,195,227,258,259]
def qq:List Nat:=[0,0,0,0,0,0,0,0,1,1,1,1,2,2,2,2,3,3,3,3,4,4,4,4,5,5,5,5,0]
def isL (n i:Nat):Prop:=lAt.getD i 0≤n∧n<lAt.getD (i+1) 0
instance (n i:Nat):Decidable (isL n i):=by unfold isL; infer_instance
def ya (n:Nat):Nat→Nat→Option Nat
 | 0,_=>none
 | m+1,i=>if isL n i then some i else ya n m (i+1)
def KP (i n:Nat):Value := .agg #[.int .i64 ((257+i:Nat):Int),.int .i64 (qq.getD i 0:Nat),.int .i64 ((n-lAt.getD i 0:Nat):Int)]
def dAt:List Nat:=[1,2,3,4,5,7,9,13,17,25,33,49,65,97,129,193,257,385,513,769,1025,1537,2049,3073,4097,6145,8193,12289,16385,24577,32769]
def dBt (i:Nat):Nat:=i/2-1
def isD (n i:Nat):Prop:=dAt.getD i 0≤n∧n<dAt.getD (i+1) 0
instance (n i:Nat):Decidable (isD n i):=by unfold isD; infer_instance
def qb (n:Nat):Nat→Nat→Option Nat
 | 0,_=>none
 | m+1,i=>if isD n i then some i else qb n m (i+1)
theorem JI (n m i:Nat):qb n (m+1) i=if isD n i then some i else qb n m (i+1):=rfl
theorem Wg (n:Nat) : ∀ m i,dAt.getD i 0≤n→n<dAt.getD (i+m) 0 → ∃ r,qb n m i=some r∧i≤r∧r<i+m
 | 0,i,h1,h2=>by rw [Nat.add_zero] at h2; omega
 | m+1,i,h1,h2=>by
   rw [JI]
   by_cases h:isD n i
   · exact ⟨i,by rw [if_pos h],by omega,by omega⟩
   · rw [if_neg h]
     have h3:dAt.getD (i+1) 0≤n:=by
      unfold isD at h
      omega
     obtain ⟨r,r1,r2,r3⟩:=Wg n m (i+1) h3 (by rw [show i+1+m=i+(m+1) by omega]; exact h2)
     exact ⟨r,r1,by omega,by omega⟩
theorem qD (n:Nat) (h1:1≤n) (h2:n≤32768) : ∃ r,qb n 30 0=some r∧r<30:=by
 obtain ⟨r,r1,_,r3⟩:=Wg n 30 0 h1 (by show n<32769; omega)
 exact ⟨r,r1,by omega⟩
def Xk (i n:Nat):Value := .agg #[.int .i64 (i:Nat),.int .i64 (dBt i:Nat),.int .i64 ((n-dAt.getD i 0:Nat):Int)]
end Go.Proofs.YtfkcdnaghndgfaaGreatDoor
namespace Go.Proofs.YtfkcdnaghndgfaaGreatDoor
open Go.RowKit
instance (n i:Nat):Decidable (isL n i):=by unfold isL; infer_instance
end Go.Proofs.YtfkcdnaghndgfaaGreatDoor
namespace Go.Proofs.YtfkcdnaghndgfaaGreatDoor
open Go.RowKit
end Go.Proofs.YtfkcdnaghndgfaaGreatDoor
namespace Go.Proofs.YtfkcdnaghndgfaaGreatDoor
open Go.RowKit
structure Agree (N:Nat) (s s':ByteArray):Prop where
 le:N≤s.size
 le':N≤s'.size
 eq:(zc s).take N=(zc s').take N
theorem ZL (a b:List Nat):zj (a++b)=zj a++zj b:=by simp [zj]
theorem vX (l:List Nat) (N:Nat) (h:N≤l.length):(zj l).take (8*N)=zj (l.take N):=by
 have e:zj l=zj (l.take N)++zj (l.drop N):=by rw [← ZL,List.take_append_drop]
 rw [e,List.take_left']
 rw [zK,List.length_take]; omega
theorem Agree.bits {N:Nat} {s s':ByteArray} (h:Agree N s s'):(jW s).take (8*N)=(jW s').take (8*N):=by
 unfold jW
 rw [vX _ _ (by rw [zd]; exact h.le),vX _ _ (by rw [zd]; exact h.le'),h.eq]
def Tr {α:Type} (N:Nat) (s':ByteArray) (r r':Except Nat (α×Nat)):Prop :=
 ∀ v a',r = .ok (v,a')→(a'≤8*N→r' = .ok (v,a'))∧(N=s'.size→8*N<a'→r' = .error 3)
theorem Tr.bind {α β:Type} {N:Nat} {s':ByteArray} {x x':Except Nat (α×Nat)} {f f':α×Nat→Except Nat (β×Nat)} (hx:Tr N s' x x')
 (hf : ∀ v a1,x = .ok (v,a1)→a1≤8*N→Tr N s' (f (v,a1)) (f' (v,a1))) (hm : ∀ v a1 u a2,x = .ok (v,a1)→f (v,a1) = .ok (u,a2)→a1≤a2):Tr N s' (x >>= f) (x' >>= f'):=by
 intro u a2 h
 obtain ⟨⟨v,a1⟩,h1,h2⟩:=yV h
 have hle:=hm v a1 u a2 h1 h2
 obtain ⟨e1,e2⟩:=hx v a1 h1
 by_cases hc:a1≤8*N
 · rw [e1 hc]
   exact hf v a1 h1 hc u a2 h2
 · refine ⟨fun h=>by omega,fun hN _=>?_⟩
   rw [e2 hN (by omega)]; rfl
theorem Tr.map {α β:Type} {N:Nat} {s':ByteArray} {x x':Except Nat (α×Nat)} {f:α×Nat→β×Nat} (hx:Tr N s' x x') (hf : ∀ r,(f r).2=r.2):Tr N s' (x.map f) (x'.map f):=by
 intro u a2 h
 obtain ⟨⟨v,a1⟩,h1,h2⟩:=Ku h
 obtain ⟨e1,e2⟩:=hx v a1 h1
 have:=hf (v,a1)
 rw [h2] at this
 simp only at this
 subst this
 refine ⟨fun h=>?_,fun hN hlt=>?_⟩
 · rw [e1 h]; show Except.ok (f (v,a2))=_; rw [h2]
 · rw [e2 hN hlt]; rfl
section
variable {N:Nat} {s s':ByteArray} (hA:Agree N s s')
include hA
end
end Go.Proofs.YtfkcdnaghndgfaaGreatDoor
namespace Go.Proofs.YtfkcdnaghndgfaaGreatDoor
open Go.RowKit
theorem Tr.pure {α:Type} {N:Nat} {s':ByteArray} {v:α} {a:Nat} (ha:a≤8*N):Tr N s' (.ok (v,a)) (.ok (v,a)):=by
 intro u a2 h
 cases h
 exact ⟨fun _=>rfl,fun _ h=>by omega⟩
section
variable {N:Nat} {s s':ByteArray} (hA:Agree N s s')
include hA
end
end Go.Proofs.YtfkcdnaghndgfaaGreatDoor
namespace Go.Proofs.YtfkcdnaghndgfaaGreatDoor
open Go.RowKit
def Rm {α:Type} (len:α→Nat) (m:Nat) (r r':Except Nat α):Prop := ∀ v,r = .ok v→(len v≤m→r' = .ok v)∧(m<len v→r' = .error 4)
theorem Rm.pure {α:Type} {len:α→Nat} {m:Nat} {v:α} (h:len v≤m):Rm len m (.ok v) (.ok v):=fun u e=>by cases e; exact ⟨fun _=>rfl,fun h=>by omega⟩
theorem Rm.same {α β:Type} {len:β→Nat} {m:Nat} {x:Except Nat α} {f f':α→Except Nat β} (h : ∀ v,x = .ok v→Rm len m (f v) (f' v)):Rm len m (x >>= f) (x >>= f'):=by
 intro u e
 obtain ⟨v,h1,h2⟩:=yV e
 rw [h1]
 exact h v h1 u h2
theorem Rm.bind {α β:Type} {len:α→Nat} {len':β→Nat} {m:Nat} {x x':Except Nat α} {f f':α→Except Nat β} (hx:Rm len m x x') (hf : ∀ v,x = .ok v→len v≤m→Rm len' m (f v) (f' v))
 (hm : ∀ v u,x = .ok v→f v = .ok u→len v≤len' u):Rm len' m (x >>= f) (x' >>= f'):=by
 intro u e
 obtain ⟨v,h1,h2⟩:=yV e
 have hle:=hm v u h1 h2
 obtain ⟨e1,e2⟩:=hx v h1
 by_cases hc:len v≤m
 · rw [e1 hc]; exact hf v h1 hc u h2
 · refine ⟨fun h=>by omega,fun _=>?_⟩
   rw [e2 (by omega)]; rfl
end Go.Proofs.YtfkcdnaghndgfaaGreatDoor
namespace Go.Proofs.YtfkcdnaghndgfaaGreatDoor
open Go.RowKit
def Er {α:Type} (r:Except Nat α):Prop := ∀ c,r = .error c→2≤c∧c≤4
theorem Er.ok {α:Type} {v:α}:Er (.ok v:Except Nat α):=fun c h=>by cases h
theorem Er.error {α:Type} {k:Nat} (h:2≤k∧k≤4):Er (.error k:Except Nat α):=fun c e=>by cases e; exact h
theorem Er.bind {α β:Type} {x:Except Nat α} {f:α→Except Nat β} (hx:Er x) (hf : ∀ v,x = .ok v→Er (f v)):Er (x >>= f):=by
 intro c e
 cases hc:x with
 | error k=>rw [hc] at e; cases e; exact hx _ hc
 | ok v=>rw [hc] at e; exact hf v hc c e
theorem Er.map {α β:Type} {x:Except Nat α} {f:α→β} (hx:Er x):Er (x.map f):=by
 intro c e
 cases hc:x with
 | error k=>rw [hc] at e; cases e; exact hx _ hc
 | ok v=>rw [hc] at e; cases e
end Go.Proofs.YtfkcdnaghndgfaaGreatDoor
namespace Go.Proofs.YtfkcdnaghndgfaaGreatDoor
open Go.RowKit
structure XAt (w:World) (bx br:Nat) (s:ByteArray) (why a:Nat) (O:ByteArray) (most:Nat):Prop where
 blk:Blk w bx [.pointer (some ⟨br,0,none⟩),.string O,.int .i64 (most:Nat),.int .i64 (why:Nat)] 105
 ne:bx≠br
 rd : ∃ bad,RdAt w br 103 s a bad∧(why=0→bad=false)
 le:a≤8*s.size
def Sp {α:Type} (TP:Except Nat α) (why:Nat) (rest:Except Nat α):Prop:=(why≠0∧TP = .error why)∨(why=0∧TP=rest)
def zhD (s:ByteArray) (why a n v why' a':Nat):Prop :=
 (why≠0∧v=0∧why'=why∧a'=a)∨(why=0∧zG s a n = .ok (v,a')∧why'=0)∨(why=0∧zG s a n = .error 3∧v=0∧why'=3∧a'=a)
def zg8 (why:Nat) (b:Bool) (why':Nat):Prop:=(why≠0∧why'=why)∨(why=0∧b=true∧why'=0)∨(why=0∧b=false∧why'=2)
def zhq (l:List Int) (s:ByteArray) (why a v why' a':Nat):Prop :=
 (why≠0∧v=0∧why'=why∧a'=a)∨(why=0∧xc l s a = .ok (v,a')∧why'=0)∨(why=0∧v=0∧why'≠0∧xc l s a = .error why')
theorem Sp.take {α:Type} {TP:Except Nat α} {s:ByteArray} {why a n v why' a':Nat} {f:Nat×Nat→Except Nat α} (h:Sp TP why (zG s a n >>= f)) (ht:zhD s why a n v why' a'):Sp TP why' (f (v,a')):=by
 rcases h with ⟨h1,h2⟩ | ⟨h1,h2⟩
 · rcases ht with ⟨_,_,h3,_⟩ | ⟨h3,_⟩ | ⟨h3,_⟩
   · exact .inl ⟨by omega,by rw [h3]; exact h2⟩
   · omega
   · omega
 · rcases ht with ⟨h3,_⟩ | ⟨_,h3,h4⟩ | ⟨_,h3,_,h4,_⟩
   · omega
   · exact .inr ⟨h4,by rw [h2,h3]; rfl⟩
   · exact .inl ⟨by omega,by rw [h2,h3,h4]; rfl⟩
theorem Sp.next {α:Type} {TP:Except Nat α} {l:List Int} {s:ByteArray} {why a v why' a':Nat} {f:Nat×Nat→Except Nat α} (h:Sp TP why (xc l s a >>= f)) (ht:zhq l s why a v why' a'):Sp TP why' (f (v,a')):=by
 rcases h with ⟨h1,h2⟩ | ⟨h1,h2⟩
 · rcases ht with ⟨_,_,h3,_⟩ | ⟨h3,_⟩ | ⟨h3,_⟩
   · exact .inl ⟨by omega,by rw [h3]; exact h2⟩
   · omega
   · omega
 · rcases ht with ⟨h3,_⟩ | ⟨_,h3,h4⟩ | ⟨_,_,h4,h3⟩
   · omega
   · exact .inr ⟨h4,by rw [h2,h3]; rfl⟩
   · exact .inl ⟨h4,by rw [h2,h3]; rfl⟩
theorem Sp.must {α:Type} {TP rest:Except Nat α} {why why':Nat} {b:Bool} (h:Sp TP why (if b=true then rest else .error 2)) (ht:zg8 why b why'):Sp TP why' rest:=by
 rcases h with ⟨h1,h2⟩ | ⟨h1,h2⟩
 · rcases ht with ⟨_,h3⟩ | ⟨h3,_⟩ | ⟨h3,_⟩
   · exact .inl ⟨by omega,by rw [h3]; exact h2⟩
   · omega
   · omega
 · rcases ht with ⟨h3,_⟩ | ⟨_,h3,h4⟩ | ⟨_,h3,h4⟩
   · omega
   · exact .inr ⟨h4,by rw [h2,if_pos h3]⟩
   · exact .inl ⟨by omega,by rw [h2,if_neg (by rw [h3]; simp),h4]⟩
theorem XAt.upd {w w':World} {bx br:Nat} {s:ByteArray} {why a:Nat} {O:ByteArray} {most:Nat} {fp:List Nat} (h:XAt w bx br s why a O most) (hU:Upd fp w w') (h1:bx∉fp) (h2:br∉fp):XAt w' bx br s why a O most:=by
 obtain ⟨bad,hR,hb⟩:=h.rd
 exact ⟨h.blk.upd hU h1,h.ne,⟨bad,hR.upd hU h2,hb⟩,h.le⟩
end Go.Proofs.YtfkcdnaghndgfaaGreatDoor
namespace Go.Proofs.YtfkcdnaghndgfaaGreatDoor
open Go.RowKit
structure RowSt (w0 w:World) (bx br:Nat) (s:ByteArray) (O:ByteArray) (most:Nat) (v:Value) (L:List Nat) (why a:Nat):Prop where
 x:XAt w bx br s why a O most
 row:Row w 3 1 v L.length (zg L)
 le : ∀ x∈L,x≤15
 len:L.length≤320
 upd:Upd [bx,br] w0 w
 new : ∀ k,v.ownBlock=some k→w0.heap.size≤k
theorem RowSt.step {w0 w w':World} {bx br:Nat} {s:ByteArray} {O:ByteArray} {most:Nat} {v:Value} {L:List Nat} {why a why' a':Nat} (h:RowSt w0 w bx br s O most v L why a) (hbx:bx<w0.heap.size) (hbr:br<w0.heap.size) (hX:XAt w' bx br s why' a' O most) (hU:Upd [bx,br] w w'):RowSt w0 w' bx br s O most v L why' a' :=
 ⟨hX,h.row.upd hU (fun k hk hm=>by have:=h.new k hk; simp at hm; omega),h.le,h.len,h.upd.then hU,h.new⟩
theorem Sp.late {α:Type} {TP x:Except Nat α} {why:Nat} (h:Sp TP why x) (hw:why≠0) (y:Except Nat α):Sp TP why y:=by
 rcases h with h | ⟨h,_⟩
 · exact .inl h
 · exact absurd h hw
theorem RowSt.push {w0 wr w9:World} {bx br:Nat} {s:ByteArray} {O:ByteArray} {most:Nat} {v v9:Value} {M:List Nat} {X why a:Nat} (h:RowSt w0 wr bx br s O most v M why a) (hbx:bx<w0.heap.size) (hbr:br<w0.heap.size) (o:Obj)
 (hR:Row w9 3 1 v9 (M.length+1) (zg M++[.int .i64 (X:Nat)])) (hU:Upd v.ownBlock.toList (wr.alloc o) w9) (hT:Later (wr.alloc o) v v9) (hX:X≤15) (hl:M.length+1≤320):RowSt w0 w9 bx br s O most v9 (M++[X]) why a:=by
 have hnb : ∀ k∈v.ownBlock.toList,w0.heap.size≤k:=fun k hk=>h.new k (by simpa using hk)
 refine ⟨(h.x.upd ((Upd.refl [] wr).alloc o) (by simp) (by simp)).upd hU (fun hm=>by have:=hnb _ hm; omega) (fun hm=>by have:=hnb _ hm; omega),?_,?_,by simpa using hl,?_,?_⟩
 · rw [List.length_append]; simpa [zg] using hR
 · intro y hy
   rcases List.mem_append.1 hy with h1 | h1
   · exact h.le y h1
   · simp at h1; omega
 · exact (h.upd.alloc o).trans hU (fun k hk => .inr (hnb k hk))
 · intro k hk
   rcases hT with h1 | ⟨g,h1,h2⟩
   · rw [h1] at hk; exact h.new k hk
   · rw [h1] at hk; cases hk
     rw [World.size_alloc] at h2
     have:=h.upd.size
     omega
end Go.Proofs.YtfkcdnaghndgfaaGreatDoor
namespace Go.Proofs.YtfkcdnaghndgfaaGreatDoor
open Go.RowKit
theorem XAt.drewN {w:World} {bx br:Nat} {s:ByteArray} {why a:Nat} {O:ByteArray} {most:Nat} (h:XAt w bx br s why a O most) (k:Nat):XAt (w.drewN k) bx br s why a O most:=h.upd ((Upd.refl [] w).drewN k) (by simp) (by simp)
def zis (why:Nat) (O t:ByteArray) (most why':Nat) (O':ByteArray):Prop :=
 (why≠0∧why'=why∧O'=O)∨(why=0∧O.size+t.size≤most∧why'=0∧O'=O++t)∨(why=0 ∧ ¬ O.size+t.size≤most∧why'=4∧O'=O)
theorem Sp.put {α:Type} {TP rest:Except Nat α} {why why' most:Nat} {O t O':ByteArray} {b:Bool} (h:Sp TP why (if b=true then rest else .error 4)) (ht:zis why O t most why' O') (hb:b=decide (O.size+t.size≤most)):Sp TP why' rest:=by
 rcases h with ⟨h1,h2⟩ | ⟨h1,h2⟩
 · rcases ht with ⟨_,h3,_⟩ | ⟨h3,_⟩ | ⟨h3,_⟩
   · exact .inl ⟨by omega,by rw [h3]; exact h2⟩
   · omega
   · omega
 · rcases ht with ⟨h3,_⟩ | ⟨_,h3,h4,_⟩ | ⟨_,h3,h4,_⟩
   · omega
   · exact .inr ⟨h4,by rw [h2,hb,if_pos (by simpa using h3)]⟩
   · exact .inl ⟨by omega,by rw [h2,hb,if_neg (by simpa using h3),h4]⟩
end Go.Proofs.YtfkcdnaghndgfaaGreatDoor
namespace Go.Proofs.YtfkcdnaghndgfaaGreatDoor
open Go.RowKit
end Go.Proofs.YtfkcdnaghndgfaaGreatDoor
namespace Go.Proofs.YtfkcdnaghndgfaaGreatDoor
open Go.RowKit
theorem XAt.rdTo {w w':World} {bx br:Nat} {s:ByteArray} {a a':Nat} {O:ByteArray} {most:Nat} (h:XAt w bx br s 0 a O most) (hU:Upd [br] w w') (hR:RdAt w' br 103 s a' false):XAt w' bx br s 0 a' O most :=
 ⟨h.blk.upd hU (by have:=h.ne; simp; omega),h.ne,⟨false,hR,fun _=>rfl⟩,hR.2⟩
end Go.Proofs.YtfkcdnaghndgfaaGreatDoor
namespace Go.Proofs.YtfkcdnaghndgfaaGreatDoor
open Go.RowKit
def GrowRel (w0 w:World) (v:Value) (L:List Nat):Prop:=Row w 3 1 v L.length (zg L)∧Upd [] w0 w ∧ ∀ k,v.ownBlock=some k→w0.heap.size≤k
theorem GrowRel.push {w0 wr w9:World} {v v9:Value} {L:List Nat} {X:Nat} (h:GrowRel w0 wr v L) (o:Obj) (hR:Row w9 3 1 v9 (L.length+1) (zg L++[.int .i64 (X:Nat)])) (hU:Upd v.ownBlock.toList (wr.alloc o) w9) (hT:Later (wr.alloc o) v v9):GrowRel w0 w9 v9 (L++[X]):=by
 refine ⟨?_,(h.2.1.alloc o).trans hU (fun k hk => .inr (h.2.2 k (by simpa using hk))),?_⟩
 · rw [List.length_append]; simpa [zg] using hR
 · intro k hk
   rcases hT with h1 | ⟨g,h1,h2⟩
   · rw [h1] at hk; exact h.2.2 k hk
   · rw [h1] at hk; cases hk
     rw [World.size_alloc] at h2
     have:=h.2.1.size
     omega
end Go.Proofs.YtfkcdnaghndgfaaGreatDoor
namespace Go.Proofs.YtfkcdnaghndgfaaGreatDoor
open Go.RowKit
theorem IntsIn.nil (w:World):IntsIn w none ([]:List Int).length []:=⟨rfl,fun i h=>by simp at h⟩
def KindDone (K:Except Nat (List Nat×Nat)) (y:Nat) (out:List Nat) (a:Nat):Prop:=(y≠0∧K = .error y)∨(y=0∧K = .ok (out,a))
theorem KindDone.of {K:Except Nat (List Nat×Nat)} {y:Nat} {out:List Nat} {a:Nat} (h:Sp K y (.ok (out,a))):KindDone K y out a:=h
end Go.Proofs.YtfkcdnaghndgfaaGreatDoor
namespace Go.Proofs.YtfkcdnaghndgfaaGreatDoor
open Go.RowKit
end Go.Proofs.YtfkcdnaghndgfaaGreatDoor
