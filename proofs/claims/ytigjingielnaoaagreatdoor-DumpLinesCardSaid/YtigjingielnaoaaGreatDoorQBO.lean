/- Package swingleref43: Row: its walk. -/
import Derived.Test.YtigjingielnaoaaGreatDoorQAN
import Derived.Test.YtigjingielnaoaaGreatDoorQAG
import Derived.Test.YtigjingielnaoaaGreatDoorQAE
import Derived.Test.YtigjingielnaoaaGreatDoorQAH
import Derived.Test.YtigjingielnaoaaGreatDoorQAI
import Derived.Test.YtigjingielnaoaaGreatDoorEgA
set_option linter.unusedVariables false
set_option linter.unusedSimpArgs false
set_option linter.unusedSectionVars false
namespace Go.Proofs.YtigjingielnaoaaGreatDoor
open Go.RowKit
theorem zJ (L M:List Nat) (hL:L.length+M.length≤100000) (w:World):(Op.stringOp .add (zf L) (zf M)).run Tryz.prog w = .ok (.string (zf (L++M))) w:=by
 rw [run_string_add_sum _ _ _ (by rw [zh,zh]; omega),← jI]
def qG (l:List Nat):List Nat:=l.flatMap fun n=>zA n++[32]
theorem zaV (l:List Nat) (n:Nat):qG (l++[n])=qG l++(zA n++[32]):=by simp [qG]
theorem QR : ∀ l:List Nat,(∀ n∈l,n<10000000000)→(qG l).length≤12*l.length
 | [],_=>by simp [qG]
 | n::l,h=>by
   have h1:=QR l (fun x hx=>h x (List.mem_cons_of_mem _ hx))
   have h2:=yd 10 n (h n (List.mem_cons_self ..))
   have e:qG (n::l)=(zA n++[32])++qG l:=by simp [qG]
   rw [e]
   simp
   omega
set_option maxRecDepth 100000 in
set_option maxHeartbeats 6400000 in
theorem zcz (r:RecD) (w:World) (hr:r.Fits):Calls Tryz.prog 22 #[r.v] w fun e w'=>e = .returned (.string (zf (jy r)))∧Upd [] w w':=by
 have HF:=Lib.hid (fun w'=>xF r w' hr)
 by_cases hfb:zM r=0
 · have HV:=Lib.hid (show jy r=zN 32 (vY r) from if_neg (by rw [hfb]; simp))
   rw [hfb] at HF
   obtain ⟨_,hl,hm1,hm2,htb⟩:=kQ hfb
   obtain ⟨b1,b2,b3,b4⟩:=Qr hl
   have HN:=Lib.hid (fun w=>kv r w hr)
   have htm:ja r.t=true:=by
    unfold xj at htb
    split at htb
    · have:=of_decide_eq_true htb
      rw [this]
      decide +kernel
    · exact htb
   have hrp:=hr.p
   obtain ⟨p,m,sum,l,wh,k,md,t,pos⟩:=r
   dsimp only at b1 b2 b3 b4 hm1 hm2 htm hrp
   obtain ⟨pos,rfl⟩ : ∃ n:Nat,pos=n:=⟨pos.toNat,by omega⟩
   obtain ⟨m,rfl⟩ : ∃ n:Nat,m=n:=⟨m.toNat,by omega⟩
   obtain ⟨l,rfl⟩ : ∃ n:Nat,l=n:=⟨l.toNat,by omega⟩
   obtain ⟨wh,rfl⟩ : ∃ n:Nat,wh=n:=⟨wh.toNat,by omega⟩
   obtain ⟨md,rfl⟩ : ∃ n:Nat,md=n:=⟨md.toNat,by omega⟩
   have HW:Hid (zN 32 (vY ⟨p,m,sum,l,wh,k,md,t,pos⟩)=qG [pos,m,l,wh]++yC sum 8++[32]++ye md 9++[32]++yx t++[32]++zF k p):=Lib.hid (by
    show zN 32 [zA pos,zA m,zA l,zA wh,yC sum 8,ye md 9,yx t,zF k p]=_
    simp [zN,qG])
   rw [HW.out] at HV
   clear HW
   have hsum:=hr.sum
   have ht:=hr.t
   dsimp only at hsum ht
   have HL:Hid ([pos,m,l,wh].length=4 ∧ ∀ n∈[pos,m,l,wh],n<10000000000):=Lib.hid ⟨rfl,by simp; omega⟩
   have H5:=Lib.hid (fun w=>zb3 sum w hsum)
   have H6:=Lib.hid (fun w=>zbR md w (by omega))
   have HS:=Lib.hid (fun w=>Qu t w ht)
   obtain ⟨x1,x2,x3,x4,x5,x6⟩:=VS t
   have HD:=Lib.hid (fun w=>zbd (yN t) (moN t) (dN t) (hN t) (miN t) (sN t) w x1 (by unfold yN; omega) x2 x3 x4 x5 x6)
   have HTX:Hid (yx t=qI (yN t) (moN t) (dN t) (hN t) (miN t) (sN t)):=Lib.hid (if_pos htm)
   rw [← HTX.out,← Xp] at HD
   clear HTX x1 x2 x3 x4 x5 x6 htm
   have l5:=qB 8 sum
   have l6:=yX md 9
   have l7:=vW t
   have l8:=xV k p
   have l0:=QR _ HL.out.2
   simp only [List.length_cons,List.length_nil] at l0
   clear hr hl htb b1 b2 b3 b4 hm1 hm2 hsum ht hfb
   unfold RecD.v at HF HN ⊢
   dsimp only at HF HN ⊢
   generalize yC sum 8=W5 at *
   generalize ye md 9=W6 at *
   generalize yx t=W7 at *
   generalize zF k p=W8 at *
   generalize qi t=PL at *
   have z1:=fun w=>zJ (qG [pos,m,l,wh]) W5 (by omega) w
   have z2:=fun w=>zJ (qG [pos,m,l,wh]++W5) [32] (by simp; omega) w
   have z3:=fun w=>zJ (qG [pos,m,l,wh]++W5++[32]) W6 (by simp; omega) w
   have z4:=fun w=>zJ (qG [pos,m,l,wh]++W5++[32]++W6) [32] (by simp; omega) w
   have z5:=fun w=>zJ (qG [pos,m,l,wh]++W5++[32]++W6++[32]) W7 (by simp; omega) w
   have z6:=fun w=>zJ (qG [pos,m,l,wh]++W5++[32]++W6++[32]++W7) [32] (by simp; omega) w
   have z7:=fun w=>zJ (qG [pos,m,l,wh]++W5++[32]++W6++[32]++W7++[32]) W8 (by simp; omega) w
   have y2:zf [32]=({ data := #[32] }:ByteArray):=rfl
   rw [y2] at z2 z4 z6
   clear y2 l5 l6 l7 l8 l0
   have Z:=Lib.hid (And.intro z1 (And.intro z2 (And.intro z3 (And.intro z4 (And.intro z5 (And.intro z6 z7))))))
   clear z1 z2 z3 z4 z5 z6 z7
   have HB0:=Lib.hid (Blk.new w [.string p,.int .i64 (m:Nat),.int .u32 (sum:Nat),.int .i64 (l:Nat),.int .i64 (wh:Nat),.int .i64 k,.int .i64 (md:Nat),.int .u32 (t:Nat),.int .i64 (pos:Nat)] 52)
   have HU0:=Lib.hid ((Upd.refl [] w).alloc (.cells #[.string p,.int .i64 (m:Nat),.int .u32 (sum:Nat),.int .i64 (l:Nat),.int .i64 (wh:Nat),.int .i64 k,.int .i64 (md:Nat),.int .u32 (t:Nat),.int .i64 (pos:Nat)] 52))
   go_enter Tryz.func22,Tryz.ntmps22
   go_wp2_with fail
   refine (HF.out _).mono ?_
   rintro e w1 ⟨rfl,hu1⟩
   have HB1:=Lib.hid (HB0.out.upd hu1 (by simp))
   have HU1:=Lib.hid (HU0.out.then hu1)
   clear HB0 HU0 hu1
   have cA:=HB1.out.all
   go_wp2
   clear cA
   have HG:=Lib.hid (Blk.new w1 [.int .i64 (pos:Nat),.int .i64 (m:Nat),.int .i64 (l:Nat),.int .i64 (wh:Nat)] 3)
   have HB2:=Lib.hid (HB1.out.alloc (.cells #[.int .i64 (pos:Nat),.int .i64 (m:Nat),.int .i64 (l:Nat),.int .i64 (wh:Nat)] 3))
   have HU2:=Lib.hid (HU1.out.alloc (.cells #[.int .i64 (pos:Nat),.int .i64 (m:Nat),.int .i64 (l:Nat),.int .i64 (wh:Nat)] 3))
   clear HB1 HU1
   have HGC:Hid (∀ i (hi:i<4),([.int .i64 (pos:Nat),.int .i64 (m:Nat),.int .i64 (l:Nat),.int .i64 (wh:Nat)]:List Value)[i]? =some (.int .i64 (([pos,m,l,wh].getD i 0:Nat):Int))):=Lib.hid (fun i hi=>by
    rcases (by omega:i=0∨i=1∨i=2∨i=3) with rfl | rfl | rfl | rfl<;>rfl)
   have HGE:Hid (∀ i,i<4→[pos,m,l,wh].take (i+1)=[pos,m,l,wh].take i++[[pos,m,l,wh].getD i 0]):=Lib.hid (fun i hi=>by
    rcases (by omega:i=0∨i=1∨i=2∨i=3) with rfl | rfl | rfl | rfl<;>rfl)
   have HGB:Hid (∀ i,i<4→[pos,m,l,wh].getD i 0<10000000000):=Lib.hid (fun i hi=>by
    have h:=HL.out.2
    rcases (by omega:i=0∨i=1∨i=2∨i=3) with rfl | rfl | rfl | rfl<;>exact h _ (by simp))
   have HGT:Hid ([pos,m,l,wh].take 4=[pos,m,l,wh]):=Lib.hid rfl
   generalize w.heap.size=q0 at *
   generalize w1.alloc (.cells #[.int .i64 (pos:Nat),.int .i64 (m:Nat),.int .i64 (l:Nat),.int .i64 (wh:Nat)] 3)=w2 at *
   generalize w1.heap.size=g at *
   generalize ([.int .i64 (pos:Nat),.int .i64 (m:Nat),.int .i64 (l:Nat),.int .i64 (wh:Nat)]:List Value)=GC at HG HGC
   generalize [pos,m,l,wh]=LL at *
   have HTL:Hid (∀ i,(qG (LL.take i)).length≤48):=Lib.hid (fun i=>by
    have h1:=QR (LL.take i) (fun n hn=>HL.out.2 n (List.mem_of_mem_take hn))
    have h2:(LL.take i).length≤4:=by rw [List.length_take,HL.out.1]; omega
    omega)
   go_loopg [3,19] 4 (fun gg s3 s19 wr => ∃ i:Nat,i≤4∧gg=4-i∧s19 = .int .i64 (i:Nat)∧s3 = .string (zf (qG (LL.take i)))∧Hid (Upd [] w2 wr))
   case atStart=>exact ⟨0,by omega,by omega,rfl,rfl,Lib.hid (Upd.refl _ _)⟩
   case round =>
    obtain ⟨i,hin,rfl,rfl,rfl,HU3⟩:=hrel
    by_cases hc:i<4
    · have hcz:(i:Int)<4:=by omega
      have hgc:=(HG.out.upd HU3.out (by simp)).cell i (HGC.out i hc)
      have hlt:=HTL.out i
      have HSN:Hid (qG (LL.take (i+1))=qG (LL.take i)++(zA (LL.getD i 0)++[32])):=Lib.hid (by rw [HGE.out i hc,zaV])
      have HGB1:=HGB.out i hc
      generalize LL.getD i 0=x at *
      have HX:=Lib.hid (fun w=>qT x w (by omega))
      have hdl:=yd 10 x (by omega)
      have z1:=fun w=>zJ (zA x) [32] (by simp; omega) w
      have z2:=fun w=>zJ (qG (LL.take i)) (zA x++[32]) (by simp; omega) w
      have y2:zf [32]=({ data := #[32] }:ByteArray):=rfl
      rw [y2] at z1
      rw [← HSN.out] at z2
      clear y2 HGB1 hdl
      generalize zA x++[32]=DX at *
      generalize zA x=DY at *
      obtain ⟨Y2,hY2⟩ : ∃ Y2,qG (LL.take (i+1))=Y2:=⟨_,rfl⟩
      have HY2:=Lib.hid hY2
      rw [hY2] at z2
      clear hY2 HSN
      generalize qG (LL.take i)=Y1 at *
      go_wp2_with fail
      refine (HX.out _).mono ?_
      rintro e w5 ⟨rfl,hu5⟩
      go_wp2
      go_roundg (4-(i+1))
      · exact ⟨i+1,by omega,rfl,by first | rfl | go_num,by rw [HY2.out],Lib.hid (HU3.out.then hu5)⟩
      · omega
    · have hi4:i=4:=by omega
      subst hi4
      have Z2:=Z.out
      rw [HGT.out]
      clear HGC HGE HGB HTL HG
      obtain ⟨z1,z2,z3,z4,z5,z6,z7⟩:=Z2
      generalize qG LL=X0 at *
      generalize X0++W5=X1 at *
      generalize X1++[32]=X2 at *
      generalize X2++W6=X3 at *
      generalize X3++[32]=X4 at *
      generalize X4++W7=X5 at *
      generalize X5++[32]=X6 at *
      generalize X6++W8=X7 at *
      have HB3:=Lib.hid (HB2.out.upd HU3.out (by simp))
      have HU4:=Lib.hid (HU2.out.then HU3.out)
      clear HB2 HU2 HU3
      go_upto_region 9 with fail
      refine wp_region_held_drew (S:=fun w'=>Blk w' q0 [.string p,.int .i64 (m:Nat),.int .u32 (sum:Nat),.int .i64 (l:Nat),.int .i64 (wh:Nat),.int .i64 k,.int .i64 (md:Nat),.int .u32 (t:Nat),.int .i64 (pos:Nat)] 52∧Upd [] w w') (by kernel_rfl) ⟨HB3.out,HU4.out.drew⟩ (fun hHeld=>hdN ?_)
      refine hdT 0 (some 29) ?_; refine hdT 1 (some 30) ?_
      refine hdT 2 (some 31) ?_ (hy:=by intro w5 hSw; have q0c:=hSw.1.cell 2 rfl; go_simp; try with_reducible rfl); refine hdT 6 (some 35) ?_
      refine hdT 7 (some 36) ?_ (hy:=by intro w5 hSw; have q0c:=hSw.1.cell 6 rfl; go_simp; try with_reducible rfl); refine hdT 11 (some 40) ?_
      refine hdT 12 (some 41) ?_ (hy:=by intro w5 hSw; have q0c:=hSw.1.cell 7 rfl; go_simp; try with_reducible rfl)
      refine hdT 17 (some 46) ?_ (hy:=by intro w5 hSw; have qA:=hSw.1.all; go_simp; try with_reducible rfl)
      refine hdO 3 (fun K hK=>?_)
      go_simp
      refine (H5.out _).mono ?_
      rintro e z9 ⟨rfl,hz9⟩
      go_wp2
      refine hK.out _ _ ⟨hHeld.1.upd hz9 (by simp),hHeld.2.then hz9⟩ (fun hHeld=>hdN ?_)
      clear hK K
      refine hdT 4 (some 33) ?_; refine hdT 5 (some 34) ?_
      refine hdO 8 (fun K hK=>?_)
      go_simp
      refine (H6.out _).mono ?_
      rintro e z9 ⟨rfl,hz9⟩
      go_wp2
      refine hK.out _ _ ⟨hHeld.1.upd hz9 (by simp),hHeld.2.then hz9⟩ (fun hHeld=>hdN ?_)
      clear hK K
      refine hdT 9 (some 38) ?_; refine hdT 10 (some 39) ?_
      refine hdO 13 (fun K hK=>?_)
      go_simp
      refine (HS.out _).mono ?_
      rintro e z9 ⟨rfl,hz9⟩
      go_wp2
      refine hK.out _ _ ⟨hHeld.1.upd hz9 (by simp),hHeld.2.then hz9⟩ (fun hHeld=>hdN ?_)
      clear hK K
      refine hdO 14 (fun K hK=>?_)
      go_simp
      refine (HD.out _).mono ?_
      rintro e z9 ⟨rfl,hz9⟩
      go_wp2
      refine hK.out _ _ ⟨hHeld.1.upd hz9 (by simp),hHeld.2.then hz9⟩ (fun hHeld=>hdN ?_)
      clear hK K
      refine hdT 15 (some 44) ?_; refine hdT 16 (some 45) ?_
      refine hdO 18 (fun K hK=>?_)
      go_simp
      refine (HN.out _).mono ?_
      rintro e z9 ⟨rfl,hz9⟩
      go_wp2
      refine hK.out _ _ ⟨hHeld.1.upd hz9 (by simp),hHeld.2.then hz9⟩ (fun hHeld=>hdN ?_)
      clear hK K
      refine hdT 19 (some 48) ?_; refine hdT 20 (some 2) ?_
      refine wpAnyH_done (by kernel_rfl) ?_ 0
      go_wp2_with fail
      go_ret
      exact ⟨by rw [HV.out]; rfl,hHeld.2⟩
 · have HV:Hid (jy r=[]):=Lib.hid (if_pos hfb)
   have hne : ¬ ((zM r:Nat):Int)=0:=by omega
   clear hfb
   generalize zM r=EE at *
   generalize jy r=TX at *
   obtain ⟨p,m,sum,l,wh,k,md,t,pos⟩:=r
   unfold RecD.v at HF ⊢
   dsimp only at HF ⊢
   go_enter Tryz.func22,Tryz.ntmps22
   go_wp2_with fail
   refine (HF.out _).mono ?_
   rintro e w1 ⟨rfl,hu1⟩
   go_wp2
   go_ret
   exact ⟨by rw [HV.out]; rfl,((Upd.refl _ _).alloc _).then hu1⟩
end Go.Proofs.YtigjingielnaoaaGreatDoor
namespace Go.Proofs.YtigjingielnaoaaGreatDoor
open Go.RowKit
set_option maxRecDepth 100000 in
set_option maxHeartbeats 3200000 in
theorem Yl (a b:Int) (w:World) :
 Calls Tryz.prog 19 #[.agg #[.int .i64 a,.int .i64 b]] w fun e w'=>e = .returned (.string (zf (mkW a b)))∧Upd [] w w':=by
 have HR:=Lib.hid (fun z=>Yy a b z)
 have HV:Hid (mkW a b=if yu a b=true then mkF a b++List.replicate 484 0 else []):=Lib.hid rfl
 have HBD:=Lib.hid (fun h=>jd (a:=a) (b:=b) h)
 have HB:=Lib.hid (Blk.new w [.int .i64 a,.int .i64 b] 48)
 have HU:=Lib.hid ((Upd.refl [] w).alloc (.cells #[.int .i64 a,.int .i64 b] 48))
 generalize yu a b=R at *
 generalize mkW a b=W at *
 go_enter Tryz.func19,Tryz.ntmps19
 go_upto_region 1 with fail
 change Code.wp _ _ _ _ (w.alloc (.cells #[.int .i64 a,.int .i64 b] 48))
 generalize w.alloc (.cells #[.int .i64 a,.int .i64 b] 48)=w1 at *
 generalize w.heap.size=q at *
 have cA:=HB.out.all
 go_wp2_with fail
 refine (HR.out _).mono ?_
 rintro e w2 ⟨rfl,hu2⟩
 have HB2:=Lib.hid (HB.out.upd hu2 (by simp))
 have HU2:=Lib.hid (HU.out.then hu2)
 clear cA hu2 HB HU HR
 cases R with
 | false =>
   go_wp2
   go_returns
   exact ⟨by rw [HV.out]; rfl,HU2.out⟩
 | true =>
 obtain ⟨a0,a1,b0,b1⟩:=HBD.out rfl
 clear HBD
 obtain ⟨n,rfl⟩ : ∃ n:Nat,a=n:=⟨a.toNat,by omega⟩
 obtain ⟨m,rfl⟩ : ∃ n:Nat,b=n:=⟨b.toNat,by omega⟩
 have HW1:Hid (IntKind.u64.wrap (n:Int)=(n:Nat)):=Lib.hid (by rw [IntKind.wrap_u64]; omega)
 have HW2:Hid (IntKind.u64.wrap (m:Int)=(m:Nat)):=Lib.hid (by rw [IntKind.wrap_u64]; omega)
 have HP1:=Lib.hid (fun z=>QW n 8 z (by omega) (by omega))
 have HP2:=Lib.hid (fun z=>QW m 8 z (by omega) (by omega))
 obtain ⟨S1,hS1⟩ : ∃ S1,zf ([83,87,73,78,71,76,69,49]++leP n 8)=S1:=⟨_,rfl⟩
 obtain ⟨SH,hSH⟩ : ∃ SH,zf (mkH (n:Int) (m:Int))=SH:=⟨_,rfl⟩
 have HA1:Hid (∀ w,(Op.stringOp .add ({ data := #[83,87,73,78,71,76,69,49] }:ByteArray) (zf (leP n 8))).run Tryz.prog w = .ok (.string S1) w):=Lib.hid (fun w=>by
  have:=zJ [83,87,73,78,71,76,69,49] (leP n 8) (by simp [xa]) w
  rw [hS1] at this
  exact this)
 have HA2:Hid (∀ w,(Op.stringOp .add S1 (zf (leP m 8))).run Tryz.prog w = .ok (.string SH) w):=Lib.hid (fun w=>by
  have:=zJ ([83,87,73,78,71,76,69,49]++leP n 8) (leP m 8) (by simp [xa]) w
  rw [hS1,List.append_assoc,show zf ([83,87,73,78,71,76,69,49]++(leP n 8++leP m 8))=SH from hSH] at this
  exact this)
 have hzH:SH.size=24:=by rw [← hSH,zh,kR]
 have HC:=Lib.hid (fun z=>WZ SH z (by omega))
 have hcl:yy SH<4294967296:=by unfold yy; omega
 obtain ⟨F,hF⟩ : ∃ F,mkF (n:Int) (m:Int)=F:=⟨_,rfl⟩
 have HFL:=Lib.hid (JT (n:Int) (m:Int))
 have HA3:Hid (∀ w,(Op.stringOp .add SH (zf (leP (yy SH) 4))).run Tryz.prog w = .ok (.string (zf (F++List.replicate 0 0))) w):=Lib.hid (fun w=>by
  have:=zJ (mkH (n:Int) (m:Int)) (leP (yy SH) 4) (by simp [xa,kR]) w
  rw [hSH] at this
  rw [this,← hF,← hSH]
  simp [mkF])
 rw [hF] at HV HFL
 have HX:Hid (∀ k,k<484 → ∀ w,(Op.stringOp .add (zf (F++List.replicate k 0)) ({ data := #[0] }:ByteArray)).run Tryz.prog w = .ok (.string (zf (F++List.replicate (k+1) 0))) w):=Lib.hid (fun k hk w=>by
  have:=zJ (F++List.replicate k 0) [0] (by simp [HFL.out]; omega) w
  rw [List.append_assoc,show List.replicate k 0++[0]=List.replicate (k+1) 0 from by rw [List.replicate_succ']] at this
  exact this)
 have HP3:=Lib.hid (fun z=>QW (yy SH) 4 z (by omega) (by omega))
 have HW3:Hid (IntKind.u64.wrap ((yy SH:Nat):Int)=(yy SH:Nat)):=Lib.hid (by rw [IntKind.wrap_u64]; omega)
 clear hS1 hSH hF a0 a1 b0 b1 hzH
 generalize yy SH=cs at *
 go_upto_region 3 with fail
 have ha1:=HA1.out
 have ha2:=HA2.out
 refine wp_region_held_drew (S:=fun w'=>Blk w' q [.int .i64 (n:Nat),.int .i64 (m:Nat)] 48∧Upd [] w w') (by kernel_rfl) ⟨HB2.out.drew,HU2.out.drew⟩ (fun hHeld=>hdN ?_)
 refine hdT 0 (some 7) ?_; refine hdT 1 (some 8) ?_ (hy:=by intro w0 hSw; have q0:=hSw.1.cell 0 rfl; go_simp; try with_reducible rfl)
 refine hdT 2 (some 9) ?_ (hy:=by intro w0 hSw; go_simp; all_goals rw [HW1.out]) (v := .int .u64 (n:Nat)); refine hdT 5 (some 12) ?_
 refine hdT 6 (some 13) ?_ (hy:=by intro w0 hSw; have q0:=hSw.1.cell 1 rfl; go_simp; try with_reducible rfl)
 refine hdT 7 (some 14) ?_ (hy:=by intro w0 hSw; go_simp; all_goals rw [HW2.out]) (v := .int .u64 (m:Nat))
 refine hdO 3 (fun K hK=>?_)
 go_simp
 refine (HP1.out _).mono ?_
 rintro e z1 ⟨rfl,hz1⟩
 go_wp2
 refine hK.out _ _ ⟨hHeld.1.upd hz1 (by simp),hHeld.2.then hz1⟩ (fun hHeld=>hdN ?_)
 clear hK K
 refine hdT 4 (some 11) ?_
 refine hdO 8 (fun K hK=>?_)
 go_simp
 refine (HP2.out _).mono ?_
 rintro e z1 ⟨rfl,hz1⟩
 go_wp2
 refine hK.out _ _ ⟨hHeld.1.upd hz1 (by simp),hHeld.2.then hz1⟩ (fun hHeld=>hdN ?_)
 clear hK K
 refine hdT 9 (some 16) ?_; refine hdT 10 (some 3) ?_
 refine wpAnyH_done (by kernel_rfl) ?_ 0
 clear ha1 ha2
 go_wp2_with fail
 refine (HC.out _).mono ?_
 rintro e z3 ⟨rfl,rfl⟩
 have hw3:=HW3.out
 go_wp2_with fail
 refine (HP3.out _).mono ?_
 rintro e w4 ⟨rfl,hu4⟩
 have HU4:=Lib.hid (hHeld.2.then hu4)
 have ha3:=HA3.out
 clear hu4 hHeld
 go_wp2
 clear ha3 hw3 HC HP1 HP2 HP3 HA1 HA2 HA3 HW1 HW2 HW3 HB2 HU2
 go_loopg [3] 484 (fun gg s3 wr => ∃ k,k≤484∧gg=484-k∧s3 = .string (zf (F++List.replicate k 0))∧Hid (Upd [] w wr))
 case atStart=>exact ⟨0,by omega,rfl,by simp,HU4⟩
 case round =>
  obtain ⟨k,hk,rfl,rfl,HU5⟩:=hrel
  have hz:(zf (F++List.replicate k 0)).size=28+k:=by rw [zh,List.length_append,HFL.out,List.length_replicate]
  by_cases hc:k<484
  · have hx:=HX.out k hc
    have hcz:((28+k:Nat):Int)<512:=by omega
    generalize zf (F++List.replicate k 0)=SK at *
    go_wp2
    go_roundg (484-(k+1))
    · exact ⟨k+1,by omega,rfl,rfl,HU5⟩
    · omega
  · have hcz : ¬ ((28+k:Nat):Int)<512:=by omega
    have hke:k=484:=by omega
    subst hke
    rw [← (show W=F++List.replicate 484 0 from HV.out)] at hz ⊢
    obtain ⟨SK,hSK⟩ : ∃ SK,zf W=SK:=⟨_,rfl⟩
    rw [hSK] at hz ⊢
    have HSK:=Lib.hid hSK
    clear hSK
    go_wp2
    go_ret
    exact ⟨by rw [HSK.out]; rfl,HU5.out⟩
end Go.Proofs.YtigjingielnaoaaGreatDoor
namespace Go.Proofs.YtigjingielnaoaaGreatDoor
open Go.RowKit
theorem vl {fn:Func} {p t u:Tmp} (h:fn.results = #[.cell p 44,.tmp t,.tmp u]) (tmps:Array Value) (w:World) (g:Nat) (c0 c1 c2 c3:Value) (hp:tmps.getD p undef = .pointer (some ⟨g,0,none⟩)) (hB:Blk w g [c0,c1,c2,c3] 44) :
 (results fn tmps).run Tryz.prog w = .ok (.tuple #[.agg #[c0,c1,c2,c3],tmps.getD t undef,tmps.getD u undef]) w:=by
 have h0:=hB.cell 0 rfl
 have h1:=hB.cell 1 rfl
 have h2:=hB.cell 2 rfl
 have h3:=hB.cell 3 rfl
 have hp2:tmps[p]?.getD undef = .pointer (some ⟨g,0,none⟩):=by rw [← hp]; simp
 simp [results,h,go_sem,hp2,h0,h1,h2,h3]
set_option maxRecDepth 100000 in
set_option maxHeartbeats 3200000 in
theorem KL (s:ByteArray) (w:World) (hs:s.size≤1000000) :
 Calls Tryz.prog 43 #[.string s] w fun e w'=>e = .returned (.tuple #[(egF s).1.v,.int .i64 ((egF s).2.1:Nat),.bool (egF s).2.2])∧Upd [] w w':=by
 have HF0:Hid (egF s=egN s (s.size+1-22)):=Lib.hid rfl
 generalize egF s=FP at *
 have HB0:=Lib.hid (Blk.new w [.int .i64 0,.int .i64 0,.int .i64 0,.int .i64 0] 44)
 have HU0:=Lib.hid ((Upd.refl [] w).alloc (.cells #[.int .i64 0,.int .i64 0,.int .i64 0,.int .i64 0] 44))
 have hw0:IntKind.i64.wrap ((s.size:Int)-22)=(s.size:Int)-22:=IntWalk.i64_in _ (by omega)
 go_enter Tryz.func43,Tryz.ntmps43
 go_upto_region 1 with fail
 change Code.wp _ _ _ _ (w.alloc (.cells #[.int .i64 0,.int .i64 0,.int .i64 0,.int .i64 0] 44))
 generalize w.alloc (.cells #[.int .i64 0,.int .i64 0,.int .i64 0,.int .i64 0] 44)=w1 at *
 generalize hb:w.heap.size=b at *
 have HWB:=Lib.hid (show w.heap.size≤b by omega)
 clear hb
 go_wp2
 go_loopg [5] (s.size+1-22) (fun gg s5 wr => ∃ (k:Nat) (z:Int),k=gg∧s5 = .int .i64 z∧k≤s.size∧(z=(k:Int)-1∨z<0∧k=0) ∧ -100≤z∧Hid (FP=egN s k)∧Hid (Blk wr b [.int .i64 0,.int .i64 0,.int .i64 0,.int .i64 0] 44)∧Hid (Upd [] w wr))
 case atStart=>exact ⟨s.size+1-22,_,rfl,rfl,by omega,by omega,by omega,HF0,HB0,HU0⟩
 case round =>
  clear HB0 HU0 HF0
  obtain ⟨k,z,rfl,rfl,hk,hz,hz2,HE,HB,HU⟩:=hrel
  by_cases hneg:z<0
  · have hn2 : ¬ (0:Int)≤z:=by omega
    obtain rfl:k=0:=by omega
    have HV:Hid (FP=(EgD.no,0,false)):=HE
    have kA:=HB.out.all
    have fA:=HB.out.frz
    go_wp2
    exact bodyPost_ret (vl rfl _ _ b _ _ _ _ rfl (Blk.set4 HB.out _ _ _ _)) rfl ⟨by rw [HV.out]; rfl,Upd.set4 HU.out (.inr HWB.out) _ _ _ _⟩
  · obtain ⟨i,rfl⟩ : ∃ i:Nat,k=i+1:=⟨k-1,by omega⟩
    obtain rfl:z=(i:Int):=by omega
    have hn2:(0:Int)≤(i:Int):=by omega
    have hw1:IntKind.i64.wrap ((s.size:Int)-(i:Nat))=(s.size:Int)-(i:Nat):=IntWalk.i64_in _ (by omega)
    have hw2:IntKind.i64.wrap ((i:Int)-1)=(i:Int)-1:=IntWalk.i64_in _ (by omega)
    have HE2:Hid (FP=if 65557<s.size-i then (EgD.no,0,false) else if (egP s (i:Nat)).2=true then ((egP s (i:Nat)).1,i,true) else egN s i):=HE
    clear hz hz2 HE hneg
    by_cases h6:65557<s.size-i
    · have h7 : ¬ (s.size:Int)-(i:Nat)≤65557:=by omega
      have HV:=Lib.hid (HE2.out.trans (if_pos h6))
      have kA:=HB.out.all
      have fA:=HB.out.frz
      go_wp2
      exact bodyPost_ret (vl rfl _ _ b _ _ _ _ rfl (Blk.set4 HB.out _ _ _ _)) rfl ⟨by rw [HV.out]; rfl,Upd.set4 HU.out (.inr HWB.out) _ _ _ _⟩
    have h7:(s.size:Int)-(i:Nat)≤65557:=by omega
    have HE3:=Lib.hid (HE2.out.trans (if_neg h6))
    have HRD:=Lib.hid (fun y=>KN s (i:Nat) y hs)
    clear HE2 h6
    generalize egP s (i:Nat)=EP at *
    obtain ⟨⟨ga,gb,gc,gd⟩,OK⟩:=EP
    unfold EgD.v at HRD
    dsimp only at HRD HE3
    go_wp2_with fail
    refine (HRD.out _).mono ?_
    rintro e w2 ⟨rfl,hu2⟩
    have HB2:=Lib.hid ((HB.out.upd hu2 (by simp)).alloc (.cells #[.int .i64 (ga:Nat),.int .i64 (gb:Nat),.int .i64 (gc:Nat),.int .i64 (gd:Nat)] 44))
    have HU2:=Lib.hid ((HU.out.then hu2).alloc (.cells #[.int .i64 (ga:Nat),.int .i64 (gb:Nat),.int .i64 (gc:Nat),.int .i64 (gd:Nat)] 44))
    have HC2:=Lib.hid (Blk.new w2 [.int .i64 (ga:Nat),.int .i64 (gb:Nat),.int .i64 (gc:Nat),.int .i64 (gd:Nat)] 44)
    clear hu2 HB HU HRD
    go_upto_region 5 with fail
    change Code.wp _ _ _ _ (w2.alloc (.cells #[.int .i64 (ga:Nat),.int .i64 (gb:Nat),.int .i64 (gc:Nat),.int .i64 (gd:Nat)] 44))
    generalize w2.alloc (.cells #[.int .i64 (ga:Nat),.int .i64 (gb:Nat),.int .i64 (gc:Nat),.int .i64 (gd:Nat)] 44)=w3 at *
    generalize w2.heap.size=c at *
    cases OK with
    | true =>
      have HV:=Lib.hid (HE3.out.trans (if_pos rfl))
      have HB:=HB2
      have HU:=HU2
      have cA:=HC2.out.all
      have kA:=HB.out.all
      have fA:=HB.out.frz
      go_wp2
      exact bodyPost_ret (vl rfl _ _ b _ _ _ _ rfl (Blk.set4 HB.out _ _ _ _)) rfl ⟨by rw [HV.out]; rfl,Upd.set4 HU.out (.inr HWB.out) _ _ _ _⟩
    | false =>
      have HE4:=Lib.hid (HE3.out.trans (if_neg (by simp)))
      go_wp2
      go_roundg i
      all_goals first
       | omega
       | exact ⟨i,(i:Int)-1,rfl,by first | rfl | go_num,by omega,.inl rfl,by omega,HE4,HB2,HU2⟩
end Go.Proofs.YtigjingielnaoaaGreatDoor
