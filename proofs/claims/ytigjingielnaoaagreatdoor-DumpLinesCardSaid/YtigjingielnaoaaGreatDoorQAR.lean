/- The walks of the reference's reader of bits (swingleref03): Bit, R.Bits, R.Align, R.Text. -/
import Derived.Test.YtigjingielnaoaaGreatDoorQAQ
import Derived.Test.YtigjingielnaoaaGreatDoorQAP
set_option linter.unusedVariables false
set_option linter.unusedSimpArgs false
set_option linter.unusedSectionVars false
namespace Go.Proofs.YtigjingielnaoaaGreatDoor
open Go.RowKit
theorem WS {k:IntKind} {a b:Int} (h:a=b):Ending.returned (.int k a) = .returned (.int k b):=by rw [h]
theorem zaT (s:ByteArray) (i:Nat) (h:i<8*s.size):zx s i 1=(s[i/8]'(by omega)).toNat/2^(i%8)%2:=by
 have:=Qh s (i/8) (i%8) 1 (by omega) (by omega)
 rw [show 8*(i/8)+i%8=i by omega] at this
 exact this
set_option maxHeartbeats 1600000 in
theorem zdN (s:ByteArray) (i:Nat) (w:World) (h:i<8*s.size) (hs:s.size≤1099511627776) :
 Calls Tryz.prog 228 #[.string s,.int .i64 (i:Nat)] w fun e w'=>e = .returned (.int .u32 (zx s i 1:Nat))∧w=w':=by
 have hv:=Lib.hid (zaT s i h)
 obtain ⟨q,f,hqf,hf⟩ : ∃ q f,i=8*q+f∧f≤7:=⟨i/8,i%8,by omega,by omega⟩
 have hq:i/8=q:=by omega
 have hm:i%8=f:=by omega
 have hqs:q<s.size:=by omega
 have hbv:Hid (zx s i 1=s[q].toNat/2^f%2):=Lib.hid (by rw [hv.out]; subst hq hm; rfl)
 have h1:(i:Int)/8=(q:Int):=by omega
 have h2:(i:Int)%8=(f:Int):=by omega
 have hqz:(q:Int)<(s.size:Int):=by omega
 have hlt:=s[q].toNat_lt
 clear hq hm hv hqf
 generalize zx s i 1=r at *
 go_enter Tryz.func228,Tryz.ntmps228
 go_wp2
 have hx:s[q].toNat≤255:=by omega
 clear hlt
 generalize s[q].toNat=x at *
 go_loopg [5,6] f (fun g s5 s6 wx => ∃ k,k≤f∧g=f-k∧s6 = .int .i64 (k:Nat)∧s5 = .int .i64 ((x/2^k:Nat):Int)∧w=wx)
 case atStart=>exact ⟨0,by omega,rfl,rfl,by simp; try omega,rfl⟩
 case round =>
  obtain ⟨k,hk,rfl,rfl,rfl,rfl⟩:=hrel
  have hxk:x/2^k≤255:=Nat.le_trans (Nat.div_le_self _ _) hx
  by_cases hc:k<f
  · have hcz:(k:Int)<(f:Int):=by omega
    have hd:=Lib.hid (show x/2^k/2=x/2^(k+1) by rw [Nat.div_div_eq_div_mul,Nat.pow_succ])
    generalize x/2^k=y at *
    go_wp2
    go_roundg (f-(k+1))
    case measure=>omega
    case rel=>exact ⟨k+1,by omega,rfl,by go_num,by rw [← hd.out]; simp,rfl⟩
  · have hcz : ¬ (k:Int)<(f:Int):=by omega
    have hkf:k=f:=by omega
    rw [← hkf] at hbv
    generalize x/2^k=y at *
    clear hkf
    go_wp2
    go_returns
    exact ⟨WS (by have:=hbv.out; omega),rfl⟩
theorem zdy (v o r i:Nat) (hv:v<2^i) (ho:o=2^i) (hi:i<32) (hr:r<2):v+o*r<2^(i+1)∧2*o=2^(i+1)∧2^(i+1)≤4294967296:=by
 subst ho
 have h3:2^(i+1)≤2^32:=Nat.pow_le_pow_right (by omega) (by omega)
 have h4:2^i*r≤2^i*1:=Nat.mul_le_mul_left _ (by omega)
 rw [Nat.pow_succ] at *
 omega
set_option maxRecDepth 100000 in
set_option maxHeartbeats 3200000 in
theorem vt (b:Nat) (n:Int) (w:World) (s:ByteArray) (a:Nat) (bad:Bool) (hR:RdAt w b 208 s a bad) (hs:s.size≤1099511627776) :
 Calls Tryz.prog 203 #[.pointer (some ⟨b,0,none⟩),.int .i64 n] w
  (jO w b 208 s (.int .u32 (yY s a bad n:Nat)) (rdTo s a bad n) (yZ s a bad n)):=by
 have h0:=hR.1.cell 0 rfl
 have h1:=hR.1.cell 1 rfl
 have h2:=hR.1.cell 2 rfl
 have f2:=hR.1.frz 2
 cases hb:yZ s a bad n with
 | true =>
   have e1:yY s a bad n=0:=by unfold yY; rw [if_pos hb]
   have e2:rdTo s a bad n=a:=by unfold rdTo; rw [if_pos hb]
   rw [e1,e2]
   have hfin : ∀ k,jO w b 208 s (.int .u32 0) a true (.returned (.int .u32 0)) ((w.drewN k).setCell ⟨b,2,none⟩ (.bool true)):=fun k =>
    ⟨rfl,⟨(hR.1.drewN k).set 2 _,hR.2⟩,((Upd.refl _ _).drewN k).setCell (.inl (by simp)) _⟩
   have H1:=Lib.hid hfin
   clear hfin e1 e2
   cases bad with
   | true =>
     clear hb
     go_enter Tryz.func203,Tryz.ntmps203
     go_wp2
     go_quiet (fail)
     go_wp2
     go_returns
     exact H1.out _
   | false =>
     simp only [yZ,Bool.false_or,Bool.or_eq_true,decide_eq_true_eq] at hb
     by_cases hn:n<0
     · have d1:decide (n<0)=true:=by simpa using hn
       clear hb hn
       go_enter Tryz.func203,Tryz.ntmps203
       go_wp2
       go_quiet (fail)
       go_wp2
       go_returns
       exact H1.out _
     · have d1:decide (n<0)=false:=by simpa using hn
       by_cases hn2:32<n
       · have d2:decide (32<n)=true:=by simpa using hn2
         clear hb
         go_enter Tryz.func203,Tryz.ntmps203
         go_wp2
         go_quiet (fail)
         go_wp2
         go_returns
         exact H1.out _
       · have d2:decide (32<n)=false:=by simpa using hn2
         have hle:=hR.2
         have hn3:8*(s.size:Int)-(a:Int)<n:=by omega
         have d3:decide (8*(s.size:Int)-(a:Int)<n)=true:=by simpa using hn3
         clear hb
         go_enter Tryz.func203,Tryz.ntmps203
         go_wp2
         go_quiet (fail)
         go_wp2
         go_returns
         exact H1.out _
 | false =>
   have e0:=hb
   simp only [yZ,Bool.or_eq_false_iff,decide_eq_false_iff_not] at hb
   obtain ⟨⟨⟨rfl,hn0⟩,hn32⟩,hnl⟩:=hb
   have e1:yY s a false n=zx s a n.toNat:=by unfold yY; rw [if_neg (by rw [e0]; decide)]
   have e2:rdTo s a false n=a+n.toNat:=by unfold rdTo; rw [if_neg (by rw [e0]; decide)]
   rw [e1,e2]
   obtain ⟨N,rfl⟩ : ∃ N:Nat,n=(N:Int):=⟨n.toNat,by omega⟩
   have hle:=hR.2
   have hN:a+N≤8*s.size:=by omega
   have hN32:N≤32:=by omega
   rw [Int.toNat_natCast]
   have d1:decide ((N:Int)<0)=false:=by simp
   have d2:decide ((32:Int)<(N:Int))=false:=by simp; omega
   have d3:decide (8*(s.size:Int)-(a:Int)<(N:Int))=false:=by simp; omega
   have hRel : ∀ k,vz w b 208 s (a+0) (w.drewN k):=fun k=>⟨⟨hR.1.drewN k,by omega⟩,(Upd.refl _ _).drewN k⟩
   have H0:=Lib.hid hRel
   clear hRel e0 e1 e2 hnl hn32 hn0
   go_enter Tryz.func203,Tryz.ntmps203
   go_wp2
   go_quiet (fail)
   have hRk:=H0.out nq
   clear H0 h0 h1 h2 f2
   generalize w.drewN nq=w1 at *
   go_wp2
   go_loopg [5,6,7] N (fun g s5 s6 s7 wr => ∃ i,i≤N∧g=N-i∧s7 = .int .i64 (i:Nat)∧s5 = .int .u64 (zx s a i:Nat)∧s6 = .int .u64 ((2^i:Nat):Int)∧vz w b 208 s (a+i) wr)
   case atStart=>exact ⟨0,by omega,rfl,rfl,by rw [Zq]; rfl,rfl,hRk⟩
   case round =>
    obtain ⟨i,hi,rfl,rfl,rfl,rfl,hRr,hU⟩:=hrel
    clear hRk
    have k0:=hRr.1.cell 0 rfl
    have k1:=hRr.1.cell 1 rfl
    have g1:=hRr.1.frz 1
    have hvl:=qy s a i
    by_cases hc:i<N
    · have hcz:(i:Int)<(N:Int):=by omega
      have hB:=fun w'=>zdN s (a+i) w' (by omega) hs
      have HB:=Lib.hid hB
      have hbl:=qy s (a+i) 1
      have hst:=zdy (zx s a i) (2^i) (zx s (a+i) 1) i hvl rfl (by omega) (by omega)
      have hsum:=Lib.hid (ZW s a i 1 (by omega))
      have hpw:=Lib.hid hst.2.1
      have hag:a+i≤8796093022208:=by omega
      obtain ⟨ag,hag2⟩ : ∃ x,x=a+i:=⟨_,rfl⟩
      rw [← hag2] at HB k1 hbl hst hsum hag
      have HAG:=Lib.hid hag2
      clear hB hag2
      generalize zx s a i=v at *
      generalize zx s ag 1=r at *
      obtain ⟨p,hp⟩ : ∃ p,p=2^i:=⟨_,rfl⟩
      rw [← hp] at hst hsum hpw hvl ⊢
      obtain ⟨hst1,hst2,hst3⟩:=hst
      have hb0:((v+p*r:Nat):Int)≤4294967296:=by omega
      have hb1:(v:Int)+(p:Int)*(r:Int)≤4294967296:=by simpa using hb0
      have hb2:(0:Int)≤(p:Int)*(r:Int):=Int.mul_nonneg (by omega) (by omega)
      have hb3:(p:Int)≤4294967296:=by omega
      clear hp hst2 hst1 hst3 hvl hb0
      go_wp2
      go_quiet ((go_at_call 228; exact Calls.quiet_of_same ((HB.out _).mono fun e w' ⟨he,hw⟩=>⟨he,hw.symm⟩)))
      go_wp2
      go_roundg (N-(i+1))
      case measure=>omega
      case rel =>
       refine ⟨i+1,by omega,rfl,by go_num,?_,?_,?_,?_⟩
       · rw [hsum.out]; simp
       · rw [← hpw.out]; simp
       · have e:(ag:Int)+1=((a+(i+1):Nat):Int):=by have:=HAG.out; omega
         rw [e]
         exact ⟨(hRr.1.drewN _).set 1 _,by omega⟩
       · exact (hU.drewN _).setCell (.inl (by simp)) _
    · have hiN:i=N:=by omega
      rw [hiN] at hRr hvl ⊢
      have hcz2 : ¬ (N:Int)<(N:Int):=by omega
      have hp32:2^N≤2^32:=Nat.pow_le_pow_right (by omega) (by omega)
      have hv32:zx s a N<4294967296:=by omega
      clear hiN hvl hc
      generalize zx s a N=v at *
      generalize 2^N=p at *
      go_wp2
      go_returns
      exact ⟨WS (by omega),hRr,hU⟩
end Go.Proofs.YtigjingielnaoaaGreatDoor
namespace Go.Proofs.YtigjingielnaoaaGreatDoor
open Go.RowKit
def xK (n:List Nat) (s:ByteArray):Nat→Nat→Nat→Nat→Option Nat×Nat×Bool
 | 0,_,a,_=>(none,a,false)
 | f+1,k,a,c=>if a<8*s.size then
  match xZ n k (2*c+zx s a 1) with
  | some x=>(some x,a+1,false)
  | none=>xK n s f (k+1) (a+1) (2*c+zx s a 1)
   else (none,a,true)
def nxt (n:List Nat) (s:ByteArray) (a:Nat) (bad:Bool):Option Nat×Nat×Bool:=if bad then (none,a,true) else xK n s 15 1 a 0
theorem jG {n:List Nat} {s:ByteArray} {f k a c:Nat} (h : ¬ a<8*s.size):xK n s (f+1) k a c=(none,a,true):=by simp [xK,h]
theorem qV {n:List Nat} {s:ByteArray} {f k a c x:Nat} (h:a<8*s.size) (hx:xZ n k (2*c+zx s a 1)=some x):xK n s (f+1) k a c=(some x,a+1,false):=by simp [xK,h,hx]
theorem qR {n:List Nat} {s:ByteArray} {f k a c:Nat} (h:a<8*s.size) (hx:xZ n k (2*c+zx s a 1)=none):xK n s (f+1) k a c=xK n s f (k+1) (a+1) (2*c+zx s a 1):=by simp [xK,h,hx]
theorem zeh (n:List Nat) (s:ByteArray) (f k a c:Nat) (h:a≤8*s.size):a≤(xK n s f k a c).2.1∧(xK n s f k a c).2.1≤8*s.size∧(xK n s f k a c).2.1≤a+f:=by
 induction f generalizing k a c with
 | zero=>exact ⟨Nat.le_refl _,h,Nat.le_refl _⟩
 | succ f ih =>
   by_cases h1:a<8*s.size
   · cases hx:xZ n k (2*c+zx s a 1) with
     | some x=>rw [qV h1 hx]; exact ⟨by simp,by simp; omega,by simp⟩
     | none =>
       rw [qR h1 hx]
       have:=ih (k+1) (a+1) (2*c+zx s a 1) (by omega)
       omega
   · rw [jG h1]; exact ⟨by simp,h,by simp⟩
theorem Ko (c r:Nat) (hc:c≤1073741824) (hr:r<2):bits BinOp.or IntKind.i64 ((2*c:Nat):Int) (r:Int)=((2*c+r:Nat):Int):=by
 rw [bits_join .i64 63 (by decide) (fun n h0 h1=>by rw [IntWalk.i64_in n (by omega)]) 1 _ _ (by omega) (by omega) (by omega) (by omega) (by omega) (by omega)]
 simp
def Jb (r:Option Nat×Nat×Bool):Value := .tuple #[.int .i64 ((r.1.getD 0:Nat):Int),.bool r.1.isSome]
theorem zcF (b:Value) (w:World) :
 Calls Tryz.prog 254 #[.pointer none,b] w fun e w'=>e = .returned (.tuple #[.int .i64 0,.bool false])∧w=w':=by
 go_enter Tryz.func254,Tryz.ntmps254
 go_wp2
 go_returns
 exact ⟨rfl,rfl⟩
set_option maxRecDepth 100000 in
set_option maxHeartbeats 3200000 in
theorem zc1 (d b:Nat) (v:Value) (n:List Nat) (w:World) (s:ByteArray) (a:Nat) (bad:Bool) (hD:DcAt w d v n) (hR:RdAt w b 268 s a bad) (hs:s.size≤1099511627776)
 (hne:d≠b) (hvb:v.ownBlock≠some b) (hps:qN n 16≤32768) (hn:n.length≤300) :
 Calls Tryz.prog 254 #[.pointer (some ⟨d,0,none⟩),.pointer (some ⟨b,0,none⟩)] w
  (jO w b 268 s (Jb (nxt n s a bad)) (nxt n s a bad).2.1 (nxt n s a bad).2.2):=by
 cases bad with
 | true =>
   have HB:=Lib.hid (vu b 1 w s a true hR hs)
   have e1:nxt n s a true=(none,a,true):=rfl
   rw [e1]
   have e2:yZ s a true 1=true:=rfl
   have e3:rdTo s a true 1=a:=rfl
   have e4:yY s a true 1=0:=rfl
   rw [e2,e3,e4] at HB
   clear e1 e2 e3 e4
   go_enter Tryz.func254,Tryz.ntmps254
   go_wp2
   refine wp_loop_rounds 1 ?_
   rw [rounds_succ]
   go_wp2_with fail
   refine HB.out.mono ?_
   rintro e w1 ⟨rfl,hR1,hU1⟩
   go_wp2_with fail
   refine (yj b w1 _ s a true hR1).mono ?_
   rintro e w2 ⟨rfl,rfl⟩
   go_wp2
   go_returns
   exact ⟨rfl,hR1,hU1⟩
 | false =>
   have e1:nxt n s a false=xK n s 15 1 a 0:=rfl
   rw [e1]
   have hpb:=Lib.hid (fun k hk=>XM n hps k hk)
   have hle:=hR.2
   have hRel0:vz w b 268 s (a+0) w:=⟨hR,.refl _ _⟩
   have HD:=Lib.hid (fun w' (hU:Upd [b] w w')=>hD.upd hU (by simpa using hne) (fun k hk hm=>hvb (by simp at hm; rw [hk,hm])))
   clear hps e1 hR hD hne hvb
   go_enter Tryz.func254,Tryz.ntmps254
   go_wp2
   go_loopg [6,7,8,9] 15 (fun g s6 s7 s8 s9 wr => ∃ j c,j≤15∧g=15-j∧s9 = .int .i64 ((j+1:Nat):Int)∧s6 = .int .i64 ((2*c:Nat):Int)∧s7 = .int .i64 (fst n (j+1):Nat)∧s8 = .int .i64 ((zL n (j+1)).length:Nat)∧c<2^j∧fst n (j+1)≤2*c∧a+j≤8*s.size∧xK n s 15 1 a 0=xK n s (15-j) (j+1) (a+j) c∧vz w b 268 s (a+j) wr)
   case atStart=>exact ⟨0,0,by omega,rfl,rfl,rfl,rfl,by rw [Kf]; rfl,by simp,by simp [fst,cnt],by omega,rfl,hRel0⟩
   case round =>
    obtain ⟨j,c,hj,rfl,rfl,rfl,rfl,rfl,hc2,hfc,haj,hnx,hRr,hU⟩:=hrel
    clear hRel0
    by_cases hc:j<15
    · have hcz:(j:Int)+1≤15:=by omega
      have hp15:2^j≤2^15:=Nat.pow_le_pow_right (by omega) (by omega)
      have HB:=Lib.hid (vu b 1 wr s (a+j) false hRr hs)
      by_cases hend:a+j<8*s.size
      · have e2:yZ s (a+j) false 1=false:=by simp [yZ]; omega
        have e3:rdTo s (a+j) false 1=a+j+1:=by unfold rdTo; rw [e2]; rfl
        have e4:yY s (a+j) false 1=zx s (a+j) 1:=by unfold yY; rw [e2]; rfl
        rw [e2,e3,e4] at HB
        have hbl:=qy s (a+j) 1
        have hfk:=hpb.out (j+1) (by omega)
        have hp16:2^(j+1)=2*2^j:=by rw [Nat.pow_succ,Nat.mul_comm]
        have hor:=Ko c (zx s (a+j) 1) (by omega) (by omega)
        have hsy1:=jE n (j+1)
        have hsy2:(j+1)*n.length≤15*300:=Nat.mul_le_mul (by omega) (by omega)
        have hsn:=Lib.hid (vm n (j+1) (by omega))
        have hfn:=Lib.hid (show fst n (j+1+1)=2*(fst n (j+1)+cnt n (j+1)) by rfl)
        by_cases hlt:2*c+zx s (a+j) 1<fst n (j+1)+cnt n (j+1)
        · have hsome:xZ n (j+1) (2*c+zx s (a+j) 1)=some ((idx n (j+1) n.length).getD (2*c+zx s (a+j) 1-fst n (j+1)) 0):=by
           unfold xZ; rw [if_pos ⟨by omega,hlt⟩]
          rw [show 15-j=(14-j)+1 by omega,qV hend hsome] at hnx
          have HN:=Lib.hid hnx
          have hget:=zcP n (j+1) (2*c+zx s (a+j) 1-fst n (j+1)) (by omega) (by omega) (by omega)
          generalize (idx n (j+1) n.length).getD (2*c+zx s (a+j) 1-fst n (j+1)) 0=x at *
          obtain ⟨q,hq⟩ : ∃ q,2*c+zx s (a+j) 1=fst n (j+1)+q:=⟨2*c+zx s (a+j) 1-fst n (j+1),by omega⟩
          rw [hq] at hor
          rw [show 2*c+zx s (a+j) 1-fst n (j+1)=q by omega] at hget
          have hq2:q<cnt n (j+1):=by omega
          have hpos:0<(zL n 16).length:=by have:=(List.getElem?_eq_some_iff.1 hget).1; omega
          have hc2b:2*c≤65536:=by omega
          have hqi:=(List.getElem?_eq_some_iff.1 hget).1
          have hF16:fst n (j+1)≤65536:=by omega
          have hL16:(zL n (j+1)).length≤4500:=by omega
          have hq16:q≤65536:=by omega
          clear hnx hsome e2 e3 e4 hlt hq hsy2 hp16 hc2 hfc
          generalize 2*c=c2 at *
          rw [Int.natCast_add] at hor
          generalize zx s (a+j) 1=r at *
          go_wp2_with fail
          refine HB.out.mono ?_
          rintro e w1 ⟨rfl,hR1,hU1⟩
          go_wp2_with fail
          refine (yj b w1 _ s _ false hR1).mono ?_
          rintro e w2 ⟨rfl,rfl⟩
          have hD:=HD.out _ (hU.then hU1)
          obtain ⟨g,vc,rfl,hg1,hg2⟩:=hD.row.form' hpos
          have d1:=hD.blk.cell (j+1) (v := .int .i64 (cnt n (j+1):Nat)) (by rw [List.getElem?_append_left (by rw [zY,xX]; omega),zZ _ _ _ (XR n (j+1) (by omega))])
          have d2:=hD.blk.cell 16 (v := .slice (some ⟨g,0,none⟩) (zL n 16).length vc) (by rw [List.getElem?_append_right (by rw [zY,xX]; omega),zY,xX]; rfl)
          have d3:=Row.cell hD.row _ (zZ _ _ _ hget)
          generalize (zL n (j+1)).length=L at *
          generalize (zL n 16).length=L16 at *
          generalize fst n (j+1)=F at *
          generalize cnt n (j+1)=C at *
          have d4:w1.cell? ⟨g,L+(F+q)-F,none⟩=some (.int .i64 (x:Nat)):=by rw [show L+(F+q)-F=L+q by omega]; exact d3
          clear d3
          go_wp2
          go_returns
          rw [HN.out]
          exact ⟨rfl,hR1,hU.then hU1⟩
        · have hnone:xZ n (j+1) (2*c+zx s (a+j) 1)=none:=by
           unfold xZ; rw [if_neg (by omega)]
          rw [show 15-j=(14-j)+1 by omega,qR hend hnone] at hnx
          have hge:fst n (j+1)+cnt n (j+1)≤2*c+zx s (a+j) 1:=by omega
          obtain ⟨c',hc'⟩ : ∃ c',c'=2*c+zx s (a+j) 1:=⟨_,rfl⟩
          rw [← hc'] at hnx hge hor
          have hc2':c'<2^(j+1):=by omega
          have hc16:c'≤65536:=by omega
          have hlt':decide ((c':Int)-(fst n (j+1):Int)<(cnt n (j+1):Int))=false:=by simp; omega
          have HN:=Lib.hid hnx
          have HC2:=Lib.hid hc2'
          have hF16:fst n (j+1)+cnt n (j+1)≤65536:=by omega
          have hL16:(zL n (j+1)).length≤4500:=by omega
          have hc2b:2*c≤65536:=by omega
          clear hnx hnone e2 e3 e4 hlt hsy2 hp16 hc2 hfc hc' hc2'
          generalize 2*c=c2 at *
          generalize zx s (a+j) 1=r at *
          go_wp2_with fail
          refine HB.out.mono ?_
          rintro e w1 ⟨rfl,hR1,hU1⟩
          go_wp2_with fail
          refine (yj b w1 _ s _ false hR1).mono ?_
          rintro e w2 ⟨rfl,rfl⟩
          have hD:=HD.out _ (hU.then hU1)
          have d1:=hD.blk.cell (j+1) (v := .int .i64 (cnt n (j+1):Nat)) (by rw [List.getElem?_append_left (by rw [zY,xX]; omega),zZ _ _ _ (XR n (j+1) (by omega))])
          generalize (zL n (j+1)).length=L at *
          generalize fst n (j+1)=F at *
          generalize cnt n (j+1)=C at *
          go_wp2
          go_roundg (15-(j+1))
          case measure=>omega
          case rel =>
           refine ⟨j+1,c',by omega,rfl,by go_num,by go_num,by rw [hfn.out]; go_num,by rw [hsn.out]; go_num,HC2.out,by rw [hfn.out]; omega,by omega,?_,?_⟩
           · rw [HN.out,show 15-(j+1)=14-j by omega,Nat.add_assoc a j 1]
           · rw [← Nat.add_assoc]; exact ⟨hR1,hU.then hU1⟩
      · have e2:yZ s (a+j) false 1=true:=by simp [yZ]; omega
        have e3:rdTo s (a+j) false 1=a+j:=by unfold rdTo; rw [e2]; rfl
        have e4:yY s (a+j) false 1=0:=by unfold yY; rw [e2]; rfl
        rw [e2,e3,e4] at HB
        rw [show 15-j=(14-j)+1 by omega,jG hend] at hnx
        rw [hnx]
        clear e2 e3 e4 hnx
        have hcb:2*c≤65536:=by omega
        generalize 2*c=c2 at *
        generalize fst n (j+1)=F at *
        generalize (zL n (j+1)).length=L at *
        go_wp2_with fail
        refine HB.out.mono ?_
        rintro e w1 ⟨rfl,hR1,hU1⟩
        go_wp2_with fail
        refine (yj b w1 _ s _ true hR1).mono ?_
        rintro e w2 ⟨rfl,rfl⟩
        go_wp2
        go_returns
        exact ⟨rfl,hR1,hU.then hU1⟩
    · have hj15:j=15:=by omega
      have hcz : ¬ (j:Int)+1≤15:=by omega
      subst hj15
      have HN:=Lib.hid (show xK n s 15 1 a 0=(none,a+15,false) from hnx)
      clear hnx
      generalize fst n (15+1)=F at *
      generalize (zL n (15+1)).length=L at *
      generalize 2*c=c2 at *
      go_wp2
      go_returns
      rw [HN.out]
      exact ⟨rfl,hRr,hU⟩
end Go.Proofs.YtigjingielnaoaaGreatDoor
namespace Go.Proofs.YtigjingielnaoaaGreatDoor
open Go.RowKit
theorem WD (n:List Nat) (k i m:Nat) : ∃ r,idx n k (i+m)=idx n k i++r:=by
 induction m with
 | zero=>exact ⟨[],by simp⟩
 | succ m ih =>
   obtain ⟨r,hr⟩:=ih
   exact ⟨r++if n.getD (i+m) 0=k then [i+m] else [],by rw [← Nat.add_assoc,vB,hr,List.append_assoc]⟩
theorem Wn (n:List Nat) (i k:Nat) (h1:1≤k) (hi:i<n.length) (hk:n.getD i 0=k):xZ n k (xx n i)=some i:=by
 have hc:xx n i=fst n k+(n.take i).count k:=by unfold xx; rw [if_neg (by omega),hk]
 have hlt:=YQ n i k hi hk
 have hcn:cnt n k=n.count k:=by unfold cnt; rw [if_neg (by omega)]
 unfold xZ
 rw [hc,if_pos ⟨by omega,by omega⟩,Nat.add_sub_cancel_left]
 obtain ⟨r,hr⟩:=WD n k (i+1) (n.length-(i+1))
 rw [show i+1+(n.length-(i+1))=n.length by omega,vB,if_pos hk] at hr
 have hl:=QL n k i (by omega)
 rw [hr,← hl,List.append_assoc,List.getD,List.getElem?_append_right (by omega)]
 simp
theorem symAt_none' (n:List Nat) (k c:Nat) (h : ¬ (fst n k≤c∧c<fst n k+cnt n k)):xZ n k c=none:=by unfold xZ; rw [if_neg h]
theorem zbk (n:List Nat) (i:Nat) (h:i<n.length):(kP n)[i]? =some (xx n i):=by simp [kP,h]
set_option maxRecDepth 100000 in
set_option maxHeartbeats 3200000 in
theorem za9 (x:Option Addr) (cap g b:Nat) (l:List Int) (w:World) (s:ByteArray) (a:Nat) (bad:Bool) (hI:IntsIn w x l.length l)
 (hC:Row w 22 1 (.slice (some ⟨g,0,none⟩) l.length l.length) l.length (jZ (kP (zi l))))
 (hR:RdAt w b 208 s a bad) (hs:s.size≤1099511627776)
 (hx : ∀ b' off,x=some ⟨b',off,none⟩→b'∉[b]) (hgb:g≠b) (hk3:zn l≠3) :
 Calls Tryz.prog 229 #[.slice x l.length cap,.slice (some ⟨g,0,none⟩) l.length l.length,.pointer (some ⟨b,0,none⟩)] w
  (jO w b 208 s (Jb (nxt (zi l) s a bad)) (nxt (zi l) s a bad).2.1 (nxt (zi l) s a bad).2.2):=by
 obtain ⟨hok,hps⟩:=kX hk3
 clear hk3
 have hnl:=yD l
 have h300:=(zU hok).1
 cases bad with
 | true =>
   have HB:=Lib.hid (vt b 1 w s a true hR hs)
   have e1:nxt (zi l) s a true=(none,a,true):=rfl
   rw [e1]
   have e2:yZ s a true 1=true:=rfl
   have e3:rdTo s a true 1=a:=rfl
   have e4:yY s a true 1=0:=rfl
   rw [e2,e3,e4] at HB
   clear e1 e2 e3 e4
   go_enter Tryz.func229,Tryz.ntmps229
   go_wp2
   refine wp_loop_rounds 1 ?_
   rw [rounds_succ]
   go_wp2_with fail
   refine HB.out.mono ?_
   rintro e w1 ⟨rfl,hR1,hU1⟩
   have k2:=hR1.1.cell 2 rfl
   go_wp2
   go_returns
   exact ⟨rfl,hR1,hU1⟩
 | false =>
   have e1:nxt (zi l) s a false=xK (zi l) s 15 1 a 0:=rfl
   rw [e1]
   have hpb:=Lib.hid (fun k hk=>XM (zi l) hps k hk)
   have hle:=hR.2
   have HO:=Lib.hid hok
   have hRel0:vz w b 208 s (a+0) w:=⟨hR,.refl _ _⟩
   have HI:=Lib.hid (fun w' (hU:Upd [b] w w')=>hI.upd hU hx)
   have HC:=Lib.hid (fun w' (hU:Upd [b] w w')=>hC.upd hU (fun k hk hm=>by simp [Value.ownBlock] at hk hm; omega))
   clear hps e1 hR hI hC hx hgb hok
   go_enter Tryz.func229,Tryz.ntmps229
   go_wp2
   go_loopg [8,9] 15 (fun g s8 s9 wr => ∃ j c,j≤15∧g=15-j∧s9 = .int .i64 ((j+1:Nat):Int)∧s8 = .int .u32 (c:Nat)∧c<2^j∧a+j≤8*s.size∧xK (zi l) s 15 1 a 0=xK (zi l) s (15-j) (j+1) (a+j) c∧vz w b 208 s (a+j) wr)
   case atStart=>exact ⟨0,0,by omega,rfl,rfl,rfl,by simp,by omega,rfl,hRel0⟩
   case round =>
    obtain ⟨j,c,hj,rfl,rfl,rfl,hc2,haj,hnx,hRr,hU⟩:=hrel
    clear hRel0
    by_cases hc:j<15
    · have hcz:(j:Int)+1≤15:=by omega
      have hp15:2^j≤2^14:=Nat.pow_le_pow_right (by omega) (by omega)
      have HB:=Lib.hid (vt b 1 wr s (a+j) false hRr hs)
      by_cases hend:a+j<8*s.size
      · have e2:yZ s (a+j) false 1=false:=by simp [yZ]; omega
        have e3:rdTo s (a+j) false 1=a+j+1:=by unfold rdTo; rw [e2]; rfl
        have e4:yY s (a+j) false 1=zx s (a+j) 1:=by unfold yY; rw [e2]; rfl
        rw [e2,e3,e4] at HB
        have hbl:=qy s (a+j) 1
        have hp16:2^(j+1)=2*2^j:=by rw [Nat.pow_succ,Nat.mul_comm]
        obtain ⟨c',hc'⟩ : ∃ c',2*c+zx s (a+j) 1=c':=⟨_,rfl⟩
        have hsome : ∀ i,xZ (zi l) (j+1) c'=some i→xK (zi l) s 15 1 a 0=(some i,a+j+1,false):=fun i hi=>by
         rw [hnx,show 15-j=(14-j)+1 by omega,qV hend (by rw [hc']; exact hi)]
        have hnone:xZ (zi l) (j+1) c'=none→xK (zi l) s 15 1 a 0=xK (zi l) s (14-j) (j+1+1) (a+j+1) c':=fun hi=>by
         rw [hnx,show 15-j=(14-j)+1 by omega,qR hend (by rw [hc']; exact hi),hc']
        have HS:=Lib.hid hsome
        have HN:=Lib.hid hnone
        have hcc:Hid (c'<2^(j+1)):=Lib.hid (by omega)
        have hcb:c'≤65536:=by omega
        have hcI:2*(c:Int)+((zx s (a+j) 1:Nat):Int)=(c':Int):=by omega
        clear hsome hnone hc' e2 e3 e4 hnx hc2 hp16
        generalize zx s (a+j) 1=r at *
        go_wp2_with fail
        refine HB.out.mono ?_
        rintro e w1 ⟨rfl,hR1,hU1⟩
        have k2:=hR1.1.cell 2 rfl
        have hUw:=hU.then hU1
        have hI1:=HI.out _ hUw
        have hC1:=HC.out _ hUw
        go_wp2
        go_loopg [26] l.length (fun g s26 wx => ∃ i,i≤l.length∧g=l.length-i∧s26 = .int .i64 (i:Nat) ∧ ¬ (fst (zi l) (j+1)≤c'∧c'<fst (zi l) (j+1)+((zi l).take i).count (j+1))∧w1=wx)
        case atStart=>exact ⟨0,by omega,rfl,rfl,by simp,rfl⟩
        case round =>
         obtain ⟨i,hin,rfl,rfl,hnot,rfl⟩:=hrel
         by_cases hc3:i<l.length
         · have hcz2:(i:Int)<(l.length:Int):=by omega
           obtain ⟨ba,off,rfl,c0,r1,r2⟩:=hI1.cell i hc3
           have hkk:=(zU HO.out).2 _ (List.getElem_mem hc3)
           obtain ⟨y,hy⟩ : ∃ y:Nat,l[i]=(y:Int):=⟨l[i].toNat,by omega⟩
           have hin':i<(zi l).length:=by omega
           have hnk:(zi l)[i]=y:=by simp [zi,hy]
           have hnd:(zi l).getD i 0=y:=by rw [List.getD,List.getElem?_eq_getElem hin']; exact hnk
           rw [hy] at c0 hkk
           have d2:=Row.cell hC1 i (zb2 _ _ _ (zbk (zi l) i hin'))
           have hct:((zi l).take (i+1)).count (j+1)=((zi l).take i).count (j+1)+if y=j+1 then 1 else 0:=by
            rw [take_snoc' (zi l) i hin',List.count_append,hnk]; simp [List.count_cons]
           clear hy r1 r2
           by_cases hyk:y=j+1
           · have hyf:((y:Int)==(j:Int)+1)=true:=by simp; omega
             have hcd:xx (zi l) i=fst (zi l) (j+1)+((zi l).take i).count (j+1):=by unfold xx; rw [hnd,if_neg (by omega),hyk]
             by_cases hcq:xx (zi l) i=c'
             · have hcf:(((xx (zi l) i:Nat):Int)==(c':Int))=true:=by simp; omega
               have hsy:=Lib.hid (HS.out i (by rw [← hcq]; exact Wn (zi l) i (j+1) (by omega) hin' (by rw [hnd,hyk])))
               clear hcd hct hcq hnot hyk hnd hnk
               generalize xx (zi l) i=cd at *
               go_wp2
               go_returns
               rw [hsy.out]
               exact ⟨rfl,hR1,hUw⟩
             · have hcf:(((xx (zi l) i:Nat):Int)==(c':Int))=false:=by simp; omega
               have hnot2 : ¬ (fst (zi l) (j+1)≤c'∧c'<fst (zi l) (j+1)+((zi l).take (i+1)).count (j+1)):=by
                rw [hct,if_pos hyk]; omega
               have HT:=Lib.hid hnot2
               clear hcd hct hcq hnot hnot2 hyk hnd hnk
               generalize xx (zi l) i=cd at *
               go_wp2
               go_roundg (l.length-(i+1))
               case measure=>omega
               case rel=>exact ⟨i+1,by omega,rfl,by go_num,HT.out,rfl⟩
           · have hyf:((y:Int)==(j:Int)+1)=false:=by simp; omega
             have hnot2 : ¬ (fst (zi l) (j+1)≤c'∧c'<fst (zi l) (j+1)+((zi l).take (i+1)).count (j+1)):=by
              rw [hct,if_neg hyk]; exact hnot
             have HT:=Lib.hid hnot2
             clear hct hnot hnot2 hyk hnd hnk d2
             go_wp2
             go_roundg (l.length-(i+1))
             case measure=>omega
             case rel=>exact ⟨i+1,by omega,rfl,by go_num,HT.out,rfl⟩
         · have hi:i=(zi l).length:=by omega
           have hcz2 : ¬ (i:Int)<(l.length:Int):=by omega
           rw [hi,List.take_length] at hnot
           have hnx:=Lib.hid (HN.out (symAt_none' _ _ _ (by unfold cnt; rw [if_neg (by omega)]; exact hnot)))
           clear hnot hi
           go_wp2
           go_roundg (15-(j+1))
           case measure=>omega
           case rel =>
            refine ⟨j+1,c',by omega,rfl,by go_num,rfl,hcc.out,by omega,?_,?_⟩
            · rw [hnx.out,show 15-(j+1)=14-j by omega,Nat.add_assoc a j 1]
            · rw [← Nat.add_assoc]; exact ⟨hR1,hUw⟩
      · have e2:yZ s (a+j) false 1=true:=by simp [yZ]; omega
        have e3:rdTo s (a+j) false 1=a+j:=by unfold rdTo; rw [e2]; rfl
        have e4:yY s (a+j) false 1=0:=by unfold yY; rw [e2]; rfl
        rw [e2,e3,e4] at HB
        rw [show 15-j=(14-j)+1 by omega,jG hend] at hnx
        have HN:=Lib.hid hnx
        have hcb:c≤65536:=by omega
        clear e2 e3 e4 hnx
        go_wp2_with fail
        refine HB.out.mono ?_
        rintro e w1 ⟨rfl,hR1,hU1⟩
        have k2:=hR1.1.cell 2 rfl
        go_wp2
        go_returns
        rw [HN.out]
        exact ⟨rfl,hR1,hU.then hU1⟩
    · have hj15:j=15:=by omega
      have hcz : ¬ (j:Int)+1≤15:=by omega
      subst hj15
      have HN:=Lib.hid (show xK (zi l) s 15 1 a 0=(none,a+15,false) from hnx)
      clear hnx
      go_wp2
      go_returns
      rw [HN.out]
      exact ⟨rfl,hRr,hU⟩
end Go.Proofs.YtigjingielnaoaaGreatDoor
