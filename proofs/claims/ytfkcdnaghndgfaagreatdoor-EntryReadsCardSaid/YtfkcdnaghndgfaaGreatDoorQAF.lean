/- The walks of bitio's Reader, further: Align, Text. -/
import Derived.Test.YtfkcdnaghndgfaaGreatDoorQAE
set_option linter.unusedVariables false
set_option linter.unusedSimpArgs false
set_option linter.unusedSectionVars false
namespace Go.Proofs.YtfkcdnaghndgfaaGreatDoor
open Go.RowKit
set_option maxHeartbeats 1600000 in
theorem Xk (b:Nat) (w:World) (s:ByteArray) (a:Nat) (bad:Bool) (hR:RdAt w b 194 s a bad) (hs:s.size≤1099511627776) :
 Calls Tryz.prog 174 #[.pointer (some ⟨b,0,none⟩)] w
  (vr w b 194 s (.tuple #[]) (xA a bad) bad):=by
 have HF:=Lib.hid (yf b w _ s a bad hR)
 have HU:=Lib.hid (Vw b w _ s a bad hR hs)
 cases bad with
 | true =>
   go_enter Tryz.func174,Tryz.ntmps174
   go_wp2_with fail
   refine HF.out.mono ?_
   rintro e w' ⟨rfl,rfl⟩
   go_wp2
   go_returns
   exact ⟨rfl,hR,.refl _ _⟩
 | false =>
   have k1:=hR.1.cell 1 rfl
   have f1:=hR.1.frz 1
   have hle:=hR.2
   have hq:((a+7)/8:Nat)≤1099511627776:=by omega
   have hal:=Lib.hid (show xA a false=8*((a+7)/8) by rfl)
   have hal2:=Km s a false hle
   clear hle
   generalize (a+7)/8=q at *
   go_enter Tryz.func174,Tryz.ntmps174
   go_wp2_with fail
   refine HF.out.mono ?_
   rintro e w' ⟨rfl,rfl⟩
   go_wp2_with fail
   refine HU.out.mono ?_
   rintro e w' ⟨rfl,rfl⟩
   go_wp2
   go_returns
   have e:(8*(q:Int))=((xA a false:Nat):Int):=by have:=hal.out; omega
   rw [e]
   exact ⟨rfl,⟨hR.1.set 1 _,hal2⟩,(Upd.refl _ _).setCell (.inl (by simp)) _⟩
set_option maxRecDepth 100000 in
set_option maxHeartbeats 1600000 in
theorem zev (b:Nat) (n:Int) (w:World) (s:ByteArray) (a:Nat) (bad:Bool) (hR:RdAt w b 194 s a bad) (hs:s.size≤1099511627776) :
 Calls Tryz.prog 175 #[.pointer (some ⟨b,0,none⟩),.int .i64 n] w
  (vr w b 194 s (.string (xu s a bad n)) (jw s a bad n) (xw s a bad n)):=by
 have HA:=Lib.hid (Xk b w s a bad hR hs)
 have hal:=Km s a bad hR.2
 cases bad with
 | true =>
   have e1:xw s a true n=true:=rfl
   have e2:xu s a true n=⟨#[]⟩:=rfl
   have e3:jw s a true n=xA a true:=rfl
   rw [e1,e2,e3]
   generalize xA a true=a1 at *
   go_enter Tryz.func175,Tryz.ntmps175
   go_wp2_with fail
   refine HA.out.mono ?_
   rintro e w' ⟨rfl,hR1,hU1⟩
   go_wp2_with fail
   refine (yf b w' _ s _ true hR1).mono ?_
   rintro e w2 ⟨rfl,rfl⟩
   go_wp2
   go_returns
   exact ⟨rfl,hR1,hU1⟩
 | false =>
   have hq:(a+7)/8≤s.size:=by have:=hR.2; omega
   have ha1:xA a false=8*((a+7)/8):=rfl
   have HBD:=Lib.hid (fun (h:xw s a false n=true)=>(show xu s a false n=⟨#[]⟩∧jw s a false n=xA a false by unfold xu jw; rw [if_pos h,if_pos h]; exact ⟨rfl,rfl⟩))
   have HGD:=Lib.hid (fun (h:xw s a false n=false)=>(show xu s a false n=s.extract ((a+7)/8) ((a+7)/8+n.toNat)∧jw s a false n=8*((a+7)/8)+8*n.toNat by unfold xu jw; rw [if_neg (by rw [h]; decide),if_neg (by rw [h]; decide)]; exact ⟨rfl,rfl⟩))
   have hTB:xw s a false n=(decide (n<0)||decide (((s.size-(a+7)/8:Nat):Int)<n)):=by simp [xw]
   generalize (a+7)/8=q at *
   have H8:Hid (8*s.size-xA a false=8*(s.size-q)):=Lib.hid (by omega)
   have HQ:=Lib.hid ha1
   clear ha1
   generalize xA a false=a1 at *
   cases hb:xw s a false n with
   | true =>
     obtain ⟨e1,e2⟩:=HBD.out hb
     rw [e1,e2]
     rw [hTB] at hb
     simp only [Bool.or_eq_true,decide_eq_true_eq] at hb
     clear e1 e2 hTB HBD HGD
     by_cases hn:n<0
     · clear hb
       go_enter Tryz.func175,Tryz.ntmps175
       go_wp2_with fail
       refine HA.out.mono ?_
       rintro e w' ⟨rfl,hR1,hU1⟩
       have k2:=hR1.1.cell 2 rfl
       have f2:=hR1.1.frz 2
       go_wp2_with fail
       refine (yf b w' _ s _ false hR1).mono ?_
       rintro e w2 ⟨rfl,rfl⟩
       go_wp2
       go_returns
       exact ⟨rfl,⟨hR1.1.set 2 _,hR1.2⟩,hU1.setCell (.inl (by simp)) _⟩
     · have hn2:((s.size-q:Nat):Int)<n:=by omega
       have hsq:s.size-q≤1099511627776:=by omega
       clear hb
       go_enter Tryz.func175,Tryz.ntmps175
       go_wp2_with fail
       refine HA.out.mono ?_
       rintro e w' ⟨rfl,hR1,hU1⟩
       have k2:=hR1.1.cell 2 rfl
       have f2:=hR1.1.frz 2
       go_wp2_with fail
       refine (yf b w' _ s _ false hR1).mono ?_
       rintro e w2 ⟨rfl,rfl⟩
       have HL:=JZ b w' _ s a1 false hR1 hs
       rw [H8.out] at HL
       have hdv:((8*(s.size-q):Nat):Int)/8=((s.size-q:Nat):Int):=by omega
       generalize s.size-q=r at *
       go_wp2_with fail
       refine HL.mono ?_
       rintro e w2 ⟨rfl,k,rfl⟩
       generalize 8*r=r8 at *
       go_wp2
       go_returns
       exact ⟨rfl,⟨(hR1.1.drewN k).set 2 _,hR1.2⟩,(hU1.drewN k).setCell (.inl (by simp)) _⟩
   | false =>
     obtain ⟨e1,e2⟩:=HGD.out hb
     rw [e1,e2]
     rw [hTB] at hb
     simp only [Bool.or_eq_false_iff,decide_eq_false_iff_not] at hb
     obtain ⟨hn0,hn1⟩:=hb
     obtain ⟨N,rfl⟩ : ∃ N:Nat,n=(N:Int):=⟨n.toNat,by omega⟩
     have hN:q+N≤s.size:=by omega
     rw [Int.toNat_natCast]
     have d1:decide ((N:Int)<0)=false:=by simp
     have hsq:s.size-q≤1099511627776:=by omega
     have hnr:N≤s.size-q:=by omega
     clear e1 e2 hTB HBD HGD hn0 hn1
     go_enter Tryz.func175,Tryz.ntmps175
     go_wp2_with fail
     refine HA.out.mono ?_
     rintro e w' ⟨rfl,hR1,hU1⟩
     go_wp2_with fail
     refine (yf b w' _ s _ false hR1).mono ?_
     rintro e w2 ⟨rfl,rfl⟩
     have HL:=JZ b w' _ s a1 false hR1 hs
     rw [H8.out] at HL
     have hdv:((8*(s.size-q):Nat):Int)/8=((s.size-q:Nat):Int):=by omega
     have hdv2:((a1:Nat):Int)/8=(q:Int):=by have:=HQ.out; omega
     generalize s.size-q=r at *
     have d3:decide (r<N)=false:=by simp; omega
     go_wp2_with fail
     refine HL.mono ?_
     rintro e w2 ⟨rfl,k,rfl⟩
     have kA:=hR1.1.all
     have f1:=hR1.1.frz 1
     generalize 8*r=r8 at *
     have ha1b:a1≤8796093022208:=by omega
     go_wp2
     go_returns
     have e:(a1:Int)+8*(N:Int)=((8*q+8*N:Nat):Int):=by have:=HQ.out; omega
     rw [e]
     exact ⟨rfl,⟨(hR1.1.drewN k).set 1 _,by omega⟩,(hU1.drewN k).setCell (.inl (by simp)) _⟩
end Go.Proofs.YtfkcdnaghndgfaaGreatDoor
namespace Go.Proofs.YtfkcdnaghndgfaaGreatDoor
open Go.RowKit
theorem zdn {k:IntKind} {a b:Int} (h:a=b):Ending.returned (.int k a) = .returned (.int k b):=by rw [h]
theorem ze9 (s:ByteArray) (i:Nat) (h:i<8*s.size):zu s i 1=(s[i/8]'(by omega)).toNat/2^(i%8)%2:=by
 have:=XQ s (i/8) (i%8) 1 (by omega) (by omega)
 rw [show 8*(i/8)+i%8=i by omega] at this
 exact this
set_option maxHeartbeats 1600000 in
theorem zhG (s:ByteArray) (i:Nat) (w:World) (h:i<8*s.size) (hs:s.size≤1099511627776) :
 Calls Tryz.prog 144 #[.string s,.int .i64 (i:Nat)] w fun e w'=>e = .returned (.int .u32 (zu s i 1:Nat))∧w=w':=by
 have hv:=Lib.hid (ze9 s i h)
 obtain ⟨q,f,hqf,hf⟩ : ∃ q f,i=8*q+f∧f≤7:=⟨i/8,i%8,by omega,by omega⟩
 have hq:i/8=q:=by omega
 have hm:i%8=f:=by omega
 have hqs:q<s.size:=by omega
 have hbv:Hid (zu s i 1=s[q].toNat/2^f%2):=Lib.hid (by rw [hv.out]; subst hq hm; rfl)
 have h1:(i:Int)/8=(q:Int):=by omega
 have h2:(i:Int)%8=(f:Int):=by omega
 have hqz:(q:Int)<(s.size:Int):=by omega
 have hlt:=s[q].toNat_lt
 clear hq hm hv hqf
 generalize zu s i 1=r at *
 go_enter Tryz.func144,Tryz.ntmps144
 go_wp2
 have hx:s[q].toNat≤255:=by omega
 clear hlt
 generalize s[q].toNat=x at *
 go_loopg [5,6] f (fun g s5 s6 wx => ∃ k,k≤f∧g=f-k∧s6 = .int .i64 (k:Nat)∧s5 = .int .i64 ((x/2^k:Nat):Int)∧w=wx)
 case atStart=>exact ⟨0,by omega,rfl,rfl,by simp; try omega,rfl⟩
 case round =>
  obtain ⟨k,hk,rfl,rfl,rfl,rfl⟩:=hrel
  have hxk:x/2^k≤255:=Nat.le_trans (Nat.div_le_self _ _) hx
  by_cases hc:k<f
  · have hcz:(k:Int)<(f:Int):=by omega
    have hd:=Lib.hid (show x/2^k/2=x/2^(k+1) by rw [Nat.div_div_eq_div_mul,Nat.pow_succ])
    generalize x/2^k=y at *
    go_wp2
    go_roundg (f-(k+1))
    case measure=>omega
    case rel=>exact ⟨k+1,by omega,rfl,by go_num,by rw [← hd.out]; simp,rfl⟩
  · have hcz : ¬ (k:Int)<(f:Int):=by omega
    have hkf:k=f:=by omega
    rw [← hkf] at hbv
    generalize x/2^k=y at *
    clear hkf
    go_wp2
    go_returns
    exact ⟨zdn (by have:=hbv.out; omega),rfl⟩
theorem zhS (v o r i:Nat) (hv:v<2^i) (ho:o=2^i) (hi:i<32) (hr:r<2):v+o*r<2^(i+1)∧2*o=2^(i+1)∧2^(i+1)≤4294967296:=by
 subst ho
 have h3:2^(i+1)≤2^32:=Nat.pow_le_pow_right (by omega) (by omega)
 have h4:2^i*r≤2^i*1:=Nat.mul_le_mul_left _ (by omega)
 rw [Nat.pow_succ] at *
 omega
set_option maxRecDepth 100000 in
set_option maxHeartbeats 3200000 in
theorem Jr (b:Nat) (n:Int) (w:World) (s:ByteArray) (a:Nat) (bad:Bool) (hR:RdAt w b 103 s a bad) (hs:s.size≤1099511627776) :
 Calls Tryz.prog 101 #[.pointer (some ⟨b,0,none⟩),.int .i64 n] w
  (vr w b 103 s (.int .u32 (yX s a bad n:Nat)) (rdTo s a bad n) (yW s a bad n)):=by
 have h0:=hR.1.cell 0 rfl
 have h1:=hR.1.cell 1 rfl
 have h2:=hR.1.cell 2 rfl
 have f2:=hR.1.frz 2
 cases hb:yW s a bad n with
 | true =>
   have e1:yX s a bad n=0:=by unfold yX; rw [if_pos hb]
   have e2:rdTo s a bad n=a:=by unfold rdTo; rw [if_pos hb]
   rw [e1,e2]
   have hfin : ∀ k,vr w b 103 s (.int .u32 0) a true (.returned (.int .u32 0)) ((w.drewN k).setCell ⟨b,2,none⟩ (.bool true)):=fun k =>
    ⟨rfl,⟨(hR.1.drewN k).set 2 _,hR.2⟩,((Upd.refl _ _).drewN k).setCell (.inl (by simp)) _⟩
   have H1:=Lib.hid hfin
   clear hfin e1 e2
   cases bad with
   | true =>
     clear hb
     go_enter Tryz.func101,Tryz.ntmps101
     go_wp2
     go_quiet (fail)
     go_wp2
     go_returns
     exact H1.out _
   | false =>
     simp only [yW,Bool.false_or,Bool.or_eq_true,decide_eq_true_eq] at hb
     by_cases hn:n<0
     · have d1:decide (n<0)=true:=by simpa using hn
       clear hb hn
       go_enter Tryz.func101,Tryz.ntmps101
       go_wp2
       go_quiet (fail)
       go_wp2
       go_returns
       exact H1.out _
     · have d1:decide (n<0)=false:=by simpa using hn
       by_cases hn2:32<n
       · have d2:decide (32<n)=true:=by simpa using hn2
         clear hb
         go_enter Tryz.func101,Tryz.ntmps101
         go_wp2
         go_quiet (fail)
         go_wp2
         go_returns
         exact H1.out _
       · have d2:decide (32<n)=false:=by simpa using hn2
         have hle:=hR.2
         have hn3:8*(s.size:Int)-(a:Int)<n:=by omega
         have d3:decide (8*(s.size:Int)-(a:Int)<n)=true:=by simpa using hn3
         clear hb
         go_enter Tryz.func101,Tryz.ntmps101
         go_wp2
         go_quiet (fail)
         go_wp2
         go_returns
         exact H1.out _
 | false =>
   have e0:=hb
   simp only [yW,Bool.or_eq_false_iff,decide_eq_false_iff_not] at hb
   obtain ⟨⟨⟨rfl,hn0⟩,hn32⟩,hnl⟩:=hb
   have e1:yX s a false n=zu s a n.toNat:=by unfold yX; rw [if_neg (by rw [e0]; decide)]
   have e2:rdTo s a false n=a+n.toNat:=by unfold rdTo; rw [if_neg (by rw [e0]; decide)]
   rw [e1,e2]
   obtain ⟨N,rfl⟩ : ∃ N:Nat,n=(N:Int):=⟨n.toNat,by omega⟩
   have hle:=hR.2
   have hN:a+N≤8*s.size:=by omega
   have hN32:N≤32:=by omega
   rw [Int.toNat_natCast]
   have d1:decide ((N:Int)<0)=false:=by simp
   have d2:decide ((32:Int)<(N:Int))=false:=by simp; omega
   have d3:decide (8*(s.size:Int)-(a:Int)<(N:Int))=false:=by simp; omega
   have hRel : ∀ k,Qn w b 103 s (a+0) (w.drewN k):=fun k=>⟨⟨hR.1.drewN k,by omega⟩,(Upd.refl _ _).drewN k⟩
   have H0:=Lib.hid hRel
   clear hRel e0 e1 e2 hnl hn32 hn0
   go_enter Tryz.func101,Tryz.ntmps101
   go_wp2
   go_quiet (fail)
   have hRk:=H0.out nq
   clear H0 h0 h1 h2 f2
   generalize w.drewN nq=w1 at *
   go_wp2
   go_loopg [5,6,7] N (fun g s5 s6 s7 wr => ∃ i,i≤N∧g=N-i∧s7 = .int .i64 (i:Nat)∧s5 = .int .u64 (zu s a i:Nat)∧s6 = .int .u64 ((2^i:Nat):Int)∧Qn w b 103 s (a+i) wr)
   case atStart=>exact ⟨0,by omega,rfl,rfl,by rw [ZS]; rfl,rfl,hRk⟩
   case round =>
    obtain ⟨i,hi,rfl,rfl,rfl,rfl,hRr,hU⟩:=hrel
    clear hRk
    have k0:=hRr.1.cell 0 rfl
    have k1:=hRr.1.cell 1 rfl
    have g1:=hRr.1.frz 1
    have hvl:=jh s a i
    by_cases hc:i<N
    · have hcz:(i:Int)<(N:Int):=by omega
      have hB:=fun w'=>zhG s (a+i) w' (by omega) hs
      have HB:=Lib.hid hB
      have hbl:=jh s (a+i) 1
      have hst:=zhS (zu s a i) (2^i) (zu s (a+i) 1) i hvl rfl (by omega) (by omega)
      have hsum:=Lib.hid (VQ s a i 1 (by omega))
      have hpw:=Lib.hid hst.2.1
      have hag:a+i≤8796093022208:=by omega
      obtain ⟨ag,hag2⟩ : ∃ x,x=a+i:=⟨_,rfl⟩
      rw [← hag2] at HB k1 hbl hst hsum hag
      have HAG:=Lib.hid hag2
      clear hB hag2
      generalize zu s a i=v at *
      generalize zu s ag 1=r at *
      obtain ⟨p,hp⟩ : ∃ p,p=2^i:=⟨_,rfl⟩
      rw [← hp] at hst hsum hpw hvl ⊢
      obtain ⟨hst1,hst2,hst3⟩:=hst
      have hb0:((v+p*r:Nat):Int)≤4294967296:=by omega
      have hb1:(v:Int)+(p:Int)*(r:Int)≤4294967296:=by simpa using hb0
      have hb2:(0:Int)≤(p:Int)*(r:Int):=Int.mul_nonneg (by omega) (by omega)
      have hb3:(p:Int)≤4294967296:=by omega
      clear hp hst2 hst1 hst3 hvl hb0
      go_wp2
      go_quiet ((go_at_call 144; exact Calls.quiet_of_same ((HB.out _).mono fun e w' ⟨he,hw⟩=>⟨he,hw.symm⟩)))
      go_wp2
      go_roundg (N-(i+1))
      case measure=>omega
      case rel =>
       refine ⟨i+1,by omega,rfl,by go_num,?_,?_,?_,?_⟩
       · rw [hsum.out]; simp
       · rw [← hpw.out]; simp
       · have e:(ag:Int)+1=((a+(i+1):Nat):Int):=by have:=HAG.out; omega
         rw [e]
         exact ⟨(hRr.1.drewN _).set 1 _,by omega⟩
       · exact (hU.drewN _).setCell (.inl (by simp)) _
    · have hiN:i=N:=by omega
      rw [hiN] at hRr hvl ⊢
      have hcz2 : ¬ (N:Int)<(N:Int):=by omega
      have hp32:2^N≤2^32:=Nat.pow_le_pow_right (by omega) (by omega)
      have hv32:zu s a N<4294967296:=by omega
      clear hiN hvl hc
      generalize zu s a N=v at *
      generalize 2^N=p at *
      go_wp2
      go_returns
      exact ⟨zdn (by omega),hRr,hU⟩
end Go.Proofs.YtfkcdnaghndgfaaGreatDoor
namespace Go.Proofs.YtfkcdnaghndgfaaGreatDoor
open Go.RowKit
def xR (n:List Nat) (s:ByteArray):Nat→Nat→Nat→Nat→Option Nat×Nat×Bool
 | 0,_,a,_=>(none,a,false)
 | f+1,k,a,c=>if a<8*s.size then
  match qx n k (2*c+zu s a 1) with
  | some x=>(some x,a+1,false)
  | none=>xR n s f (k+1) (a+1) (2*c+zu s a 1)
   else (none,a,true)
def nxt (n:List Nat) (s:ByteArray) (a:Nat) (bad:Bool):Option Nat×Nat×Bool:=if bad then (none,a,true) else xR n s 15 1 a 0
theorem kJ {n:List Nat} {s:ByteArray} {f k a c:Nat} (h : ¬ a<8*s.size):xR n s (f+1) k a c=(none,a,true):=by simp [xR,h]
theorem jz {n:List Nat} {s:ByteArray} {f k a c x:Nat} (h:a<8*s.size) (hx:qx n k (2*c+zu s a 1)=some x):xR n s (f+1) k a c=(some x,a+1,false):=by simp [xR,h,hx]
theorem jy {n:List Nat} {s:ByteArray} {f k a c:Nat} (h:a<8*s.size) (hx:qx n k (2*c+zu s a 1)=none):xR n s (f+1) k a c=xR n s f (k+1) (a+1) (2*c+zu s a 1):=by simp [xR,h,hx]
theorem zhW (n:List Nat) (s:ByteArray) (f k a c:Nat) (h:a≤8*s.size):a≤(xR n s f k a c).2.1∧(xR n s f k a c).2.1≤8*s.size∧(xR n s f k a c).2.1≤a+f:=by
 induction f generalizing k a c with
 | zero=>exact ⟨Nat.le_refl _,h,Nat.le_refl _⟩
 | succ f ih =>
   by_cases h1:a<8*s.size
   · cases hx:qx n k (2*c+zu s a 1) with
     | some x=>rw [jz h1 hx]; exact ⟨by simp,by simp; omega,by simp⟩
     | none =>
       rw [jy h1 hx]
       have:=ih (k+1) (a+1) (2*c+zu s a 1) (by omega)
       omega
   · rw [kJ h1]; exact ⟨by simp,h,by simp⟩
theorem zcl (c r:Nat) (hc:c≤1073741824) (hr:r<2):bits BinOp.or IntKind.i64 ((2*c:Nat):Int) (r:Int)=((2*c+r:Nat):Int):=by
 rw [bits_join .i64 63 (by decide) (fun n h0 h1=>by rw [IntWalk.i64_in n (by omega)]) 1 _ _ (by omega) (by omega) (by omega) (by omega) (by omega) (by omega)]
 simp
def QA (r:Option Nat×Nat×Bool):Value := .tuple #[.int .i64 ((r.1.getD 0:Nat):Int),.bool r.1.isSome]
theorem zfr (b:Value) (w:World) :
 Calls Tryz.prog 207 #[.pointer none,b] w fun e w'=>e = .returned (.tuple #[.int .i64 0,.bool false])∧w=w':=by
 go_enter Tryz.func207,Tryz.ntmps207
 go_wp2
 go_returns
 exact ⟨rfl,rfl⟩
set_option maxRecDepth 100000 in
set_option maxHeartbeats 3200000 in
theorem zfw (d b:Nat) (v:Value) (n:List Nat) (w:World) (s:ByteArray) (a:Nat) (bad:Bool) (hD:DcAt w d v n) (hR:RdAt w b 194 s a bad) (hs:s.size≤1099511627776)
 (hne:d≠b) (hvb:v.ownBlock≠some b) (hps:jf n 16≤32768) (hn:n.length≤300) :
 Calls Tryz.prog 207 #[.pointer (some ⟨d,0,none⟩),.pointer (some ⟨b,0,none⟩)] w
  (vr w b 194 s (QA (nxt n s a bad)) (nxt n s a bad).2.1 (nxt n s a bad).2.2):=by
 cases bad with
 | true =>
   have HB:=Lib.hid (Jy b 1 w s a true hR hs)
   have e1:nxt n s a true=(none,a,true):=rfl
   rw [e1]
   have e2:yW s a true 1=true:=rfl
   have e3:rdTo s a true 1=a:=rfl
   have e4:yX s a true 1=0:=rfl
   rw [e2,e3,e4] at HB
   clear e1 e2 e3 e4
   go_enter Tryz.func207,Tryz.ntmps207
   go_wp2
   refine wp_loop_rounds 1 ?_
   rw [rounds_succ]
   go_wp2_with fail
   refine HB.out.mono ?_
   rintro e w1 ⟨rfl,hR1,hU1⟩
   go_wp2_with fail
   refine (yf b w1 _ s a true hR1).mono ?_
   rintro e w2 ⟨rfl,rfl⟩
   go_wp2
   go_returns
   exact ⟨rfl,hR1,hU1⟩
 | false =>
   have e1:nxt n s a false=xR n s 15 1 a 0:=rfl
   rw [e1]
   have hpb:=Lib.hid (fun k hk=>Ja n hps k hk)
   have hle:=hR.2
   have hRel0:Qn w b 194 s (a+0) w:=⟨hR,.refl _ _⟩
   have HD:=Lib.hid (fun w' (hU:Upd [b] w w')=>hD.upd hU (by simpa using hne) (fun k hk hm=>hvb (by simp at hm; rw [hk,hm])))
   clear hps e1 hR hD hne hvb
   go_enter Tryz.func207,Tryz.ntmps207
   go_wp2
   go_loopg [6,7,8,9] 15 (fun g s6 s7 s8 s9 wr => ∃ j c,j≤15∧g=15-j∧s9 = .int .i64 ((j+1:Nat):Int)∧s6 = .int .i64 ((2*c:Nat):Int)∧s7 = .int .i64 (fst n (j+1):Nat)∧s8 = .int .i64 ((zI n (j+1)).length:Nat)∧c<2^j∧fst n (j+1)≤2*c∧a+j≤8*s.size∧xR n s 15 1 a 0=xR n s (15-j) (j+1) (a+j) c∧Qn w b 194 s (a+j) wr)
   case atStart=>exact ⟨0,0,by omega,rfl,rfl,rfl,rfl,by rw [WU]; rfl,by simp,by simp [fst,cnt],by omega,rfl,hRel0⟩
   case round =>
    obtain ⟨j,c,hj,rfl,rfl,rfl,rfl,rfl,hc2,hfc,haj,hnx,hRr,hU⟩:=hrel
    clear hRel0
    by_cases hc:j<15
    · have hcz:(j:Int)+1≤15:=by omega
      have hp15:2^j≤2^15:=Nat.pow_le_pow_right (by omega) (by omega)
      have HB:=Lib.hid (Jy b 1 wr s (a+j) false hRr hs)
      by_cases hend:a+j<8*s.size
      · have e2:yW s (a+j) false 1=false:=by simp [yW]; omega
        have e3:rdTo s (a+j) false 1=a+j+1:=by unfold rdTo; rw [e2]; rfl
        have e4:yX s (a+j) false 1=zu s (a+j) 1:=by unfold yX; rw [e2]; rfl
        rw [e2,e3,e4] at HB
        have hbl:=jh s (a+j) 1
        have hfk:=hpb.out (j+1) (by omega)
        have hp16:2^(j+1)=2*2^j:=by rw [Nat.pow_succ,Nat.mul_comm]
        have hor:=zcl c (zu s (a+j) 1) (by omega) (by omega)
        have hsy1:=kH n (j+1)
        have hsy2:(j+1)*n.length≤15*300:=Nat.mul_le_mul (by omega) (by omega)
        have hsn:=Lib.hid (JD n (j+1) (by omega))
        have hfn:=Lib.hid (show fst n (j+1+1)=2*(fst n (j+1)+cnt n (j+1)) by rfl)
        by_cases hlt:2*c+zu s (a+j) 1<fst n (j+1)+cnt n (j+1)
        · have hsome:qx n (j+1) (2*c+zu s (a+j) 1)=some ((idx n (j+1) n.length).getD (2*c+zu s (a+j) 1-fst n (j+1)) 0):=by
           unfold qx; rw [if_pos ⟨by omega,hlt⟩]
          rw [show 15-j=(14-j)+1 by omega,jz hend hsome] at hnx
          have HN:=Lib.hid hnx
          have hget:=zgx n (j+1) (2*c+zu s (a+j) 1-fst n (j+1)) (by omega) (by omega) (by omega)
          generalize (idx n (j+1) n.length).getD (2*c+zu s (a+j) 1-fst n (j+1)) 0=x at *
          obtain ⟨q,hq⟩ : ∃ q,2*c+zu s (a+j) 1=fst n (j+1)+q:=⟨2*c+zu s (a+j) 1-fst n (j+1),by omega⟩
          rw [hq] at hor
          rw [show 2*c+zu s (a+j) 1-fst n (j+1)=q by omega] at hget
          have hq2:q<cnt n (j+1):=by omega
          have hpos:0<(zI n 16).length:=by have:=(List.getElem?_eq_some_iff.1 hget).1; omega
          have hc2b:2*c≤65536:=by omega
          have hqi:=(List.getElem?_eq_some_iff.1 hget).1
          have hF16:fst n (j+1)≤65536:=by omega
          have hL16:(zI n (j+1)).length≤4500:=by omega
          have hq16:q≤65536:=by omega
          clear hnx hsome e2 e3 e4 hlt hq hsy2 hp16 hc2 hfc
          generalize 2*c=c2 at *
          rw [Int.natCast_add] at hor
          generalize zu s (a+j) 1=r at *
          go_wp2_with fail
          refine HB.out.mono ?_
          rintro e w1 ⟨rfl,hR1,hU1⟩
          go_wp2_with fail
          refine (yf b w1 _ s _ false hR1).mono ?_
          rintro e w2 ⟨rfl,rfl⟩
          have hD:=HD.out _ (hU.then hU1)
          obtain ⟨g,vc,rfl,hg1,hg2⟩:=hD.row.form' hpos
          have d1:=hD.blk.cell (j+1) (v := .int .i64 (cnt n (j+1):Nat)) (by rw [List.getElem?_append_left (by rw [zl,xy]; omega),zt _ _ _ (Yu n (j+1) (by omega))])
          have d2:=hD.blk.cell 16 (v := .slice (some ⟨g,0,none⟩) (zI n 16).length vc) (by rw [List.getElem?_append_right (by rw [zl,xy]; omega),zl,xy]; rfl)
          have d3:=Row.cell hD.row _ (zt _ _ _ hget)
          generalize (zI n (j+1)).length=L at *
          generalize (zI n 16).length=L16 at *
          generalize fst n (j+1)=F at *
          generalize cnt n (j+1)=C at *
          have d4:w1.cell? ⟨g,L+(F+q)-F,none⟩=some (.int .i64 (x:Nat)):=by rw [show L+(F+q)-F=L+q by omega]; exact d3
          clear d3
          go_wp2
          go_returns
          rw [HN.out]
          exact ⟨rfl,hR1,hU.then hU1⟩
        · have hnone:qx n (j+1) (2*c+zu s (a+j) 1)=none:=by
           unfold qx; rw [if_neg (by omega)]
          rw [show 15-j=(14-j)+1 by omega,jy hend hnone] at hnx
          have hge:fst n (j+1)+cnt n (j+1)≤2*c+zu s (a+j) 1:=by omega
          obtain ⟨c',hc'⟩ : ∃ c',c'=2*c+zu s (a+j) 1:=⟨_,rfl⟩
          rw [← hc'] at hnx hge hor
          have hc2':c'<2^(j+1):=by omega
          have hc16:c'≤65536:=by omega
          have hlt':decide ((c':Int)-(fst n (j+1):Int)<(cnt n (j+1):Int))=false:=by simp; omega
          have HN:=Lib.hid hnx
          have HC2:=Lib.hid hc2'
          have hF16:fst n (j+1)+cnt n (j+1)≤65536:=by omega
          have hL16:(zI n (j+1)).length≤4500:=by omega
          have hc2b:2*c≤65536:=by omega
          clear hnx hnone e2 e3 e4 hlt hsy2 hp16 hc2 hfc hc' hc2'
          generalize 2*c=c2 at *
          generalize zu s (a+j) 1=r at *
          go_wp2_with fail
          refine HB.out.mono ?_
          rintro e w1 ⟨rfl,hR1,hU1⟩
          go_wp2_with fail
          refine (yf b w1 _ s _ false hR1).mono ?_
          rintro e w2 ⟨rfl,rfl⟩
          have hD:=HD.out _ (hU.then hU1)
          have d1:=hD.blk.cell (j+1) (v := .int .i64 (cnt n (j+1):Nat)) (by rw [List.getElem?_append_left (by rw [zl,xy]; omega),zt _ _ _ (Yu n (j+1) (by omega))])
          generalize (zI n (j+1)).length=L at *
          generalize fst n (j+1)=F at *
          generalize cnt n (j+1)=C at *
          go_wp2
          go_roundg (15-(j+1))
          case measure=>omega
          case rel =>
           refine ⟨j+1,c',by omega,rfl,by go_num,by go_num,by rw [hfn.out]; go_num,by rw [hsn.out]; go_num,HC2.out,by rw [hfn.out]; omega,by omega,?_,?_⟩
           · rw [HN.out,show 15-(j+1)=14-j by omega,Nat.add_assoc a j 1]
           · rw [← Nat.add_assoc]; exact ⟨hR1,hU.then hU1⟩
      · have e2:yW s (a+j) false 1=true:=by simp [yW]; omega
        have e3:rdTo s (a+j) false 1=a+j:=by unfold rdTo; rw [e2]; rfl
        have e4:yX s (a+j) false 1=0:=by unfold yX; rw [e2]; rfl
        rw [e2,e3,e4] at HB
        rw [show 15-j=(14-j)+1 by omega,kJ hend] at hnx
        rw [hnx]
        clear e2 e3 e4 hnx
        have hcb:2*c≤65536:=by omega
        generalize 2*c=c2 at *
        generalize fst n (j+1)=F at *
        generalize (zI n (j+1)).length=L at *
        go_wp2_with fail
        refine HB.out.mono ?_
        rintro e w1 ⟨rfl,hR1,hU1⟩
        go_wp2_with fail
        refine (yf b w1 _ s _ true hR1).mono ?_
        rintro e w2 ⟨rfl,rfl⟩
        go_wp2
        go_returns
        exact ⟨rfl,hR1,hU.then hU1⟩
    · have hj15:j=15:=by omega
      have hcz : ¬ (j:Int)+1≤15:=by omega
      subst hj15
      have HN:=Lib.hid (show xR n s 15 1 a 0=(none,a+15,false) from hnx)
      clear hnx
      generalize fst n (15+1)=F at *
      generalize (zI n (15+1)).length=L at *
      generalize 2*c=c2 at *
      go_wp2
      go_returns
      rw [HN.out]
      exact ⟨rfl,hRr,hU⟩
end Go.Proofs.YtfkcdnaghndgfaaGreatDoor
