/- The walks of the reference's reader of bits (swingleref03): Bit, R.Bits, R.Align, R.Text. -/
import Derived.Test.YtfkcdnaghndgfaaGreatDoorQAE
import Derived.WalkLawsBesides
import Derived.Test.YtfkcdnaghndgfaaGreatDoorQAC
set_option linter.unusedVariables false
set_option linter.unusedSimpArgs false
set_option linter.unusedSectionVars false
namespace Go.Proofs.YtfkcdnaghndgfaaGreatDoor
open Go.RowKit
theorem zdn {k:IntKind} {a b:Int} (h:a=b):Ending.returned (.int k a) = .returned (.int k b):=by rw [h]
theorem ze0 (s:ByteArray) (i:Nat) (h:i<8*s.size):zW s i 1=(s[i/8]'(by omega)).toNat/2^(i%8)%2:=by
 have:=zbW s (i/8) (i%8) 1 (by omega) (by omega)
 rw [show 8*(i/8)+i%8=i by omega] at this
 exact this
set_option maxHeartbeats 1600000 in
theorem zij (s:ByteArray) (i:Nat) (w:World) (h:i<8*s.size) (hs:s.size≤1099511627776) :
 Calls Tryz.prog 144 #[.string s,.int .i64 (i:Nat)] w fun e w'=>e = .returned (.int .u32 (zW s i 1:Nat))∧w=w':=by
 have hv:=Lib.hid (ze0 s i h)
 obtain ⟨q,f,hqf,hf⟩ : ∃ q f,i=8*q+f∧f≤7:=⟨i/8,i%8,by omega,by omega⟩
 have hq:i/8=q:=by omega
 have hm:i%8=f:=by omega
 have hqs:q<s.size:=by omega
 have hbv:Hid (zW s i 1=s[q].toNat/2^f%2):=Lib.hid (by rw [hv.out]; subst hq hm; rfl)
 have h1:(i:Int)/8=(q:Int):=by omega
 have h2:(i:Int)%8=(f:Int):=by omega
 have hqz:(q:Int)<(s.size:Int):=by omega
 have hlt:=s[q].toNat_lt
 clear hq hm hv hqf
 generalize zW s i 1=r at *
 go_enter Tryz.func144,Tryz.ntmps144
 go_wp2
 have hx:s[q].toNat≤255:=by omega
 clear hlt
 generalize s[q].toNat=x at *
 go_loopg [5,6] f (fun g s5 s6 wx => ∃ k,k≤f∧g=f-k∧s6 = .int .i64 (k:Nat)∧s5 = .int .i64 ((x/2^k:Nat):Int)∧w=wx)
 case atStart=>exact ⟨0,by omega,rfl,rfl,by simp; try omega,rfl⟩
 case round =>
  obtain ⟨k,hk,rfl,rfl,rfl,rfl⟩:=hrel
  have hxk:x/2^k≤255:=Nat.le_trans (Nat.div_le_self _ _) hx
  by_cases hc:k<f
  · have hcz:(k:Int)<(f:Int):=by omega
    have hd:=Lib.hid (show x/2^k/2=x/2^(k+1) by rw [Nat.div_div_eq_div_mul,Nat.pow_succ])
    generalize x/2^k=y at *
    go_wp2
    go_roundg (f-(k+1))
    case measure=>omega
    case rel=>exact ⟨k+1,by omega,rfl,by go_num,by rw [← hd.out]; simp,rfl⟩
  · have hcz : ¬ (k:Int)<(f:Int):=by omega
    have hkf:k=f:=by omega
    rw [← hkf] at hbv
    generalize x/2^k=y at *
    clear hkf
    go_wp2
    go_returns
    exact ⟨zdn (by have:=hbv.out; omega),rfl⟩
theorem ziu (v o r i:Nat) (hv:v<2^i) (ho:o=2^i) (hi:i<32) (hr:r<2):v+o*r<2^(i+1)∧2*o=2^(i+1)∧2^(i+1)≤4294967296:=by
 subst ho
 have h3:2^(i+1)≤2^32:=Nat.pow_le_pow_right (by omega) (by omega)
 have h4:2^i*r≤2^i*1:=Nat.mul_le_mul_left _ (by omega)
 rw [Nat.pow_succ] at *
 omega
set_option maxRecDepth 100000 in
set_option maxHeartbeats 3200000 in
theorem JA (b:Nat) (n:Int) (w:World) (s:ByteArray) (a:Nat) (bad:Bool) (hR:RdAt w b 103 s a bad) (hs:s.size≤1099511627776) :
 Calls Tryz.prog 101 #[.pointer (some ⟨b,0,none⟩),.int .i64 n] w
  (XW w b 103 s (.int .u32 (jT s a bad n:Nat)) (rdTo s a bad n) (jx s a bad n)):=by
 have h0:=hR.1.cell 0 rfl
 have h1:=hR.1.cell 1 rfl
 have h2:=hR.1.cell 2 rfl
 have f2:=hR.1.frz 2
 cases hb:jx s a bad n with
 | true =>
   have e1:jT s a bad n=0:=by unfold jT; rw [if_pos hb]
   have e2:rdTo s a bad n=a:=by unfold rdTo; rw [if_pos hb]
   rw [e1,e2]
   have hfin : ∀ k,XW w b 103 s (.int .u32 0) a true (.returned (.int .u32 0)) ((w.drewN k).setCell ⟨b,2,none⟩ (.bool true)):=fun k =>
    ⟨rfl,⟨(hR.1.drewN k).set 2 _,hR.2⟩,((Upd.refl _ _).drewN k).setCell (.inl (by simp)) _⟩
   have H1:=Lib.hid hfin
   clear hfin e1 e2
   cases bad with
   | true =>
     clear hb
     go_enter Tryz.func101,Tryz.ntmps101
     go_wp2
     go_quiet (fail)
     go_wp2
     go_returns
     exact H1.out _
   | false =>
     simp only [jx,Bool.false_or,Bool.or_eq_true,decide_eq_true_eq] at hb
     by_cases hn:n<0
     · have d1:decide (n<0)=true:=by simpa using hn
       clear hb hn
       go_enter Tryz.func101,Tryz.ntmps101
       go_wp2
       go_quiet (fail)
       go_wp2
       go_returns
       exact H1.out _
     · have d1:decide (n<0)=false:=by simpa using hn
       by_cases hn2:32<n
       · have d2:decide (32<n)=true:=by simpa using hn2
         clear hb
         go_enter Tryz.func101,Tryz.ntmps101
         go_wp2
         go_quiet (fail)
         go_wp2
         go_returns
         exact H1.out _
       · have d2:decide (32<n)=false:=by simpa using hn2
         have hle:=hR.2
         have hn3:8*(s.size:Int)-(a:Int)<n:=by omega
         have d3:decide (8*(s.size:Int)-(a:Int)<n)=true:=by simpa using hn3
         clear hb
         go_enter Tryz.func101,Tryz.ntmps101
         go_wp2
         go_quiet (fail)
         go_wp2
         go_returns
         exact H1.out _
 | false =>
   have e0:=hb
   simp only [jx,Bool.or_eq_false_iff,decide_eq_false_iff_not] at hb
   obtain ⟨⟨⟨rfl,hn0⟩,hn32⟩,hnl⟩:=hb
   have e1:jT s a false n=zW s a n.toNat:=by unfold jT; rw [if_neg (by rw [e0]; decide)]
   have e2:rdTo s a false n=a+n.toNat:=by unfold rdTo; rw [if_neg (by rw [e0]; decide)]
   rw [e1,e2]
   obtain ⟨N,rfl⟩ : ∃ N:Nat,n=(N:Int):=⟨n.toNat,by omega⟩
   have hle:=hR.2
   have hN:a+N≤8*s.size:=by omega
   have hN32:N≤32:=by omega
   rw [Int.toNat_natCast]
   have d1:decide ((N:Int)<0)=false:=by simp
   have d2:decide ((32:Int)<(N:Int))=false:=by simp; omega
   have d3:decide (8*(s.size:Int)-(a:Int)<(N:Int))=false:=by simp; omega
   have hRel : ∀ k,zaL w b 103 s (a+0) (w.drewN k):=fun k=>⟨⟨hR.1.drewN k,by omega⟩,(Upd.refl _ _).drewN k⟩
   have H0:=Lib.hid hRel
   clear hRel e0 e1 e2 hnl hn32 hn0
   go_enter Tryz.func101,Tryz.ntmps101
   go_wp2
   go_quiet (fail)
   have hRk:=H0.out nq
   clear H0 h0 h1 h2 f2
   generalize w.drewN nq=w1 at *
   go_wp2
   go_loopg [5,6,7] N (fun g s5 s6 s7 wr => ∃ i,i≤N∧g=N-i∧s7 = .int .i64 (i:Nat)∧s5 = .int .u64 (zW s a i:Nat)∧s6 = .int .u64 ((2^i:Nat):Int)∧zaL w b 103 s (a+i) wr)
   case atStart=>exact ⟨0,by omega,rfl,rfl,by rw [zbH]; rfl,rfl,hRk⟩
   case round =>
    obtain ⟨i,hi,rfl,rfl,rfl,rfl,hRr,hU⟩:=hrel
    clear hRk
    have k0:=hRr.1.cell 0 rfl
    have k1:=hRr.1.cell 1 rfl
    have g1:=hRr.1.frz 1
    have hvl:=vW s a i
    by_cases hc:i<N
    · have hcz:(i:Int)<(N:Int):=by omega
      have hB:=fun w'=>zij s (a+i) w' (by omega) hs
      have HB:=Lib.hid hB
      have hbl:=vW s (a+i) 1
      have hst:=ziu (zW s a i) (2^i) (zW s (a+i) 1) i hvl rfl (by omega) (by omega)
      have hsum:=Lib.hid (ze8 s a i 1 (by omega))
      have hpw:=Lib.hid hst.2.1
      have hag:a+i≤8796093022208:=by omega
      obtain ⟨ag,hag2⟩ : ∃ x,x=a+i:=⟨_,rfl⟩
      rw [← hag2] at HB k1 hbl hst hsum hag
      have HAG:=Lib.hid hag2
      clear hB hag2
      generalize zW s a i=v at *
      generalize zW s ag 1=r at *
      obtain ⟨p,hp⟩ : ∃ p,p=2^i:=⟨_,rfl⟩
      rw [← hp] at hst hsum hpw hvl ⊢
      obtain ⟨hst1,hst2,hst3⟩:=hst
      have hb0:((v+p*r:Nat):Int)≤4294967296:=by omega
      have hb1:(v:Int)+(p:Int)*(r:Int)≤4294967296:=by simpa using hb0
      have hb2:(0:Int)≤(p:Int)*(r:Int):=Int.mul_nonneg (by omega) (by omega)
      have hb3:(p:Int)≤4294967296:=by omega
      clear hp hst2 hst1 hst3 hvl hb0
      go_wp2
      go_quiet ((go_at_call 144; exact Calls.quiet_of_same ((HB.out _).mono fun e w' ⟨he,hw⟩=>⟨he,hw.symm⟩)))
      go_wp2
      go_roundg (N-(i+1))
      case measure=>omega
      case rel =>
       refine ⟨i+1,by omega,rfl,by go_num,?_,?_,?_,?_⟩
       · rw [hsum.out]; simp
       · rw [← hpw.out]; simp
       · have e:(ag:Int)+1=((a+(i+1):Nat):Int):=by have:=HAG.out; omega
         rw [e]
         exact ⟨(hRr.1.drewN _).set 1 _,by omega⟩
       · exact (hU.drewN _).setCell (.inl (by simp)) _
    · have hiN:i=N:=by omega
      rw [hiN] at hRr hvl ⊢
      have hcz2 : ¬ (N:Int)<(N:Int):=by omega
      have hp32:2^N≤2^32:=Nat.pow_le_pow_right (by omega) (by omega)
      have hv32:zW s a N<4294967296:=by omega
      clear hiN hvl hc
      generalize zW s a N=v at *
      generalize 2^N=p at *
      go_wp2
      go_returns
      exact ⟨zdn (by omega),hRr,hU⟩
end Go.Proofs.YtfkcdnaghndgfaaGreatDoor
namespace Go.Proofs.YtfkcdnaghndgfaaGreatDoor
open Go.RowKit
def qV (n:List Nat) (s:ByteArray):Nat→Nat→Nat→Nat→Option Nat×Nat×Bool
 | 0,_,a,_=>(none,a,false)
 | f+1,k,a,c=>if a<8*s.size then
  match jg n k (2*c+zW s a 1) with
  | some x=>(some x,a+1,false)
  | none=>qV n s f (k+1) (a+1) (2*c+zW s a 1)
   else (none,a,true)
def nxt (n:List Nat) (s:ByteArray) (a:Nat) (bad:Bool):Option Nat×Nat×Bool:=if bad then (none,a,true) else qV n s 15 1 a 0
theorem JS {n:List Nat} {s:ByteArray} {f k a c:Nat} (h : ¬ a<8*s.size):qV n s (f+1) k a c=(none,a,true):=by simp [qV,h]
theorem kE {n:List Nat} {s:ByteArray} {f k a c x:Nat} (h:a<8*s.size) (hx:jg n k (2*c+zW s a 1)=some x):qV n s (f+1) k a c=(some x,a+1,false):=by simp [qV,h,hx]
theorem kr {n:List Nat} {s:ByteArray} {f k a c:Nat} (h:a<8*s.size) (hx:jg n k (2*c+zW s a 1)=none):qV n s (f+1) k a c=qV n s f (k+1) (a+1) (2*c+zW s a 1):=by simp [qV,h,hx]
def zcx (r:Option Nat×Nat×Bool):Value := .tuple #[.int .i64 ((r.1.getD 0:Nat):Int),.bool r.1.isSome]
end Go.Proofs.YtfkcdnaghndgfaaGreatDoor
namespace Go.Proofs.YtfkcdnaghndgfaaGreatDoor
open Go.RowKit
theorem zcC (n:List Nat) (k i m:Nat) : ∃ r,idx n k (i+m)=idx n k i++r:=by
 induction m with
 | zero=>exact ⟨[],by simp⟩
 | succ m ih =>
   obtain ⟨r,hr⟩:=ih
   exact ⟨r++if n.getD (i+m) 0=k then [i+m] else [],by rw [← Nat.add_assoc,Xk,hr,List.append_assoc]⟩
theorem Yj (n:List Nat) (i k:Nat) (h1:1≤k) (hi:i<n.length) (hk:n.getD i 0=k):jg n k (zG n i)=some i:=by
 have hc:zG n i=fst n k+(n.take i).count k:=by unfold zG; rw [if_neg (by omega),hk]
 have hlt:=Ze n i k hi hk
 have hcn:cnt n k=n.count k:=by unfold cnt; rw [if_neg (by omega)]
 unfold jg
 rw [hc,if_pos ⟨by omega,by omega⟩,Nat.add_sub_cancel_left]
 obtain ⟨r,hr⟩:=zcC n k (i+1) (n.length-(i+1))
 rw [show i+1+(n.length-(i+1))=n.length by omega,Xk,if_pos hk] at hr
 have hl:=Xi n k i (by omega)
 rw [hr,← hl,List.append_assoc,List.getD,List.getElem?_append_right (by omega)]
 simp
theorem symAt_none' (n:List Nat) (k c:Nat) (h : ¬ (fst n k≤c∧c<fst n k+cnt n k)):jg n k c=none:=by unfold jg; rw [if_neg h]
theorem zeo (n:List Nat) (i:Nat) (h:i<n.length):(je n)[i]? =some (zG n i):=by simp [je,h]
set_option maxRecDepth 100000 in
set_option maxHeartbeats 3200000 in
theorem ze5 (x:Option Addr) (cap g b:Nat) (l:List Int) (w:World) (s:ByteArray) (a:Nat) (bad:Bool) (hI:IntsIn w x l.length l)
 (hC:Row w 22 1 (.slice (some ⟨g,0,none⟩) l.length l.length) l.length (xL (je (zf l))))
 (hR:RdAt w b 103 s a bad) (hs:s.size≤1099511627776)
 (hx : ∀ b' off,x=some ⟨b',off,none⟩→b'∉[b]) (hgb:g≠b) (hk3:zi l≠3) :
 Calls Tryz.prog 145 #[.slice x l.length cap,.slice (some ⟨g,0,none⟩) l.length l.length,.pointer (some ⟨b,0,none⟩)] w
  (XW w b 103 s (zcx (nxt (zf l) s a bad)) (nxt (zf l) s a bad).2.1 (nxt (zf l) s a bad).2.2):=by
 obtain ⟨hok,hps⟩:=xF hk3
 clear hk3
 have hnl:=yQ l
 have h300:=(zH hok).1
 cases bad with
 | true =>
   have HB:=Lib.hid (JA b 1 w s a true hR hs)
   have e1:nxt (zf l) s a true=(none,a,true):=rfl
   rw [e1]
   have e2:jx s a true 1=true:=rfl
   have e3:rdTo s a true 1=a:=rfl
   have e4:jT s a true 1=0:=rfl
   rw [e2,e3,e4] at HB
   clear e1 e2 e3 e4
   go_enter Tryz.func145,Tryz.ntmps145
   go_wp2
   refine wp_loop_rounds 1 ?_
   rw [rounds_succ]
   go_wp2_with fail
   refine HB.out.mono ?_
   rintro e w1 ⟨rfl,hR1,hU1⟩
   have k2:=hR1.1.cell 2 rfl
   go_wp2
   go_returns
   exact ⟨rfl,hR1,hU1⟩
 | false =>
   have e1:nxt (zf l) s a false=qV (zf l) s 15 1 a 0:=rfl
   rw [e1]
   have hpb:=Lib.hid (fun k hk=>Ql (zf l) hps k hk)
   have hle:=hR.2
   have HO:=Lib.hid hok
   have hRel0:zaL w b 103 s (a+0) w:=⟨hR,.refl _ _⟩
   have HI:=Lib.hid (fun w' (hU:Upd [b] w w')=>hI.upd hU hx)
   have HC:=Lib.hid (fun w' (hU:Upd [b] w w')=>hC.upd hU (fun k hk hm=>by simp [Value.ownBlock] at hk hm; omega))
   clear hps e1 hR hI hC hx hgb hok
   go_enter Tryz.func145,Tryz.ntmps145
   go_wp2
   go_loopg [8,9] 15 (fun g s8 s9 wr => ∃ j c,j≤15∧g=15-j∧s9 = .int .i64 ((j+1:Nat):Int)∧s8 = .int .u32 (c:Nat)∧c<2^j∧a+j≤8*s.size∧qV (zf l) s 15 1 a 0=qV (zf l) s (15-j) (j+1) (a+j) c∧zaL w b 103 s (a+j) wr)
   case atStart=>exact ⟨0,0,by omega,rfl,rfl,rfl,by simp,by omega,rfl,hRel0⟩
   case round =>
    obtain ⟨j,c,hj,rfl,rfl,rfl,hc2,haj,hnx,hRr,hU⟩:=hrel
    clear hRel0
    by_cases hc:j<15
    · have hcz:(j:Int)+1≤15:=by omega
      have hp15:2^j≤2^14:=Nat.pow_le_pow_right (by omega) (by omega)
      have HB:=Lib.hid (JA b 1 wr s (a+j) false hRr hs)
      by_cases hend:a+j<8*s.size
      · have e2:jx s (a+j) false 1=false:=by simp [jx]; omega
        have e3:rdTo s (a+j) false 1=a+j+1:=by unfold rdTo; rw [e2]; rfl
        have e4:jT s (a+j) false 1=zW s (a+j) 1:=by unfold jT; rw [e2]; rfl
        rw [e2,e3,e4] at HB
        have hbl:=vW s (a+j) 1
        have hp16:2^(j+1)=2*2^j:=by rw [Nat.pow_succ,Nat.mul_comm]
        obtain ⟨c',hc'⟩ : ∃ c',2*c+zW s (a+j) 1=c':=⟨_,rfl⟩
        have hsome : ∀ i,jg (zf l) (j+1) c'=some i→qV (zf l) s 15 1 a 0=(some i,a+j+1,false):=fun i hi=>by
         rw [hnx,show 15-j=(14-j)+1 by omega,kE hend (by rw [hc']; exact hi)]
        have hnone:jg (zf l) (j+1) c'=none→qV (zf l) s 15 1 a 0=qV (zf l) s (14-j) (j+1+1) (a+j+1) c':=fun hi=>by
         rw [hnx,show 15-j=(14-j)+1 by omega,kr hend (by rw [hc']; exact hi),hc']
        have HS:=Lib.hid hsome
        have HN:=Lib.hid hnone
        have hcc:Hid (c'<2^(j+1)):=Lib.hid (by omega)
        have hcb:c'≤65536:=by omega
        have hcI:2*(c:Int)+((zW s (a+j) 1:Nat):Int)=(c':Int):=by omega
        clear hsome hnone hc' e2 e3 e4 hnx hc2 hp16
        generalize zW s (a+j) 1=r at *
        go_wp2_with fail
        refine HB.out.mono ?_
        rintro e w1 ⟨rfl,hR1,hU1⟩
        have k2:=hR1.1.cell 2 rfl
        have hUw:=hU.then hU1
        have hI1:=HI.out _ hUw
        have hC1:=HC.out _ hUw
        go_wp2
        go_loopg [26] l.length (fun g s26 wx => ∃ i,i≤l.length∧g=l.length-i∧s26 = .int .i64 (i:Nat) ∧ ¬ (fst (zf l) (j+1)≤c'∧c'<fst (zf l) (j+1)+((zf l).take i).count (j+1))∧w1=wx)
        case atStart=>exact ⟨0,by omega,rfl,rfl,by simp,rfl⟩
        case round =>
         obtain ⟨i,hin,rfl,rfl,hnot,rfl⟩:=hrel
         by_cases hc3:i<l.length
         · have hcz2:(i:Int)<(l.length:Int):=by omega
           obtain ⟨ba,off,rfl,c0,r1,r2⟩:=hI1.cell i hc3
           have hkk:=(zH HO.out).2 _ (List.getElem_mem hc3)
           obtain ⟨y,hy⟩ : ∃ y:Nat,l[i]=(y:Int):=⟨l[i].toNat,by omega⟩
           have hin':i<(zf l).length:=by omega
           have hnk:(zf l)[i]=y:=by simp [zf,hy]
           have hnd:(zf l).getD i 0=y:=by rw [List.getD,List.getElem?_eq_getElem hin']; exact hnk
           rw [hy] at c0 hkk
           have d2:=Row.cell hC1 i (vU _ _ _ (zeo (zf l) i hin'))
           have hct:((zf l).take (i+1)).count (j+1)=((zf l).take i).count (j+1)+if y=j+1 then 1 else 0:=by
            rw [take_snoc' (zf l) i hin',List.count_append,hnk]; simp [List.count_cons]
           clear hy r1 r2
           by_cases hyk:y=j+1
           · have hyf:((y:Int)==(j:Int)+1)=true:=by simp; omega
             have hcd:zG (zf l) i=fst (zf l) (j+1)+((zf l).take i).count (j+1):=by unfold zG; rw [hnd,if_neg (by omega),hyk]
             by_cases hcq:zG (zf l) i=c'
             · have hcf:(((zG (zf l) i:Nat):Int)==(c':Int))=true:=by simp; omega
               have hsy:=Lib.hid (HS.out i (by rw [← hcq]; exact Yj (zf l) i (j+1) (by omega) hin' (by rw [hnd,hyk])))
               clear hcd hct hcq hnot hyk hnd hnk
               generalize zG (zf l) i=cd at *
               go_wp2
               go_returns
               rw [hsy.out]
               exact ⟨rfl,hR1,hUw⟩
             · have hcf:(((zG (zf l) i:Nat):Int)==(c':Int))=false:=by simp; omega
               have hnot2 : ¬ (fst (zf l) (j+1)≤c'∧c'<fst (zf l) (j+1)+((zf l).take (i+1)).count (j+1)):=by
                rw [hct,if_pos hyk]; omega
               have HT:=Lib.hid hnot2
               clear hcd hct hcq hnot hnot2 hyk hnd hnk
               generalize zG (zf l) i=cd at *
               go_wp2
               go_roundg (l.length-(i+1))
               case measure=>omega
               case rel=>exact ⟨i+1,by omega,rfl,by go_num,HT.out,rfl⟩
           · have hyf:((y:Int)==(j:Int)+1)=false:=by simp; omega
             have hnot2 : ¬ (fst (zf l) (j+1)≤c'∧c'<fst (zf l) (j+1)+((zf l).take (i+1)).count (j+1)):=by
              rw [hct,if_neg hyk]; exact hnot
             have HT:=Lib.hid hnot2
             clear hct hnot hnot2 hyk hnd hnk d2
             go_wp2
             go_roundg (l.length-(i+1))
             case measure=>omega
             case rel=>exact ⟨i+1,by omega,rfl,by go_num,HT.out,rfl⟩
         · have hi:i=(zf l).length:=by omega
           have hcz2 : ¬ (i:Int)<(l.length:Int):=by omega
           rw [hi,List.take_length] at hnot
           have hnx:=Lib.hid (HN.out (symAt_none' _ _ _ (by unfold cnt; rw [if_neg (by omega)]; exact hnot)))
           clear hnot hi
           go_wp2
           go_roundg (15-(j+1))
           case measure=>omega
           case rel =>
            refine ⟨j+1,c',by omega,rfl,by go_num,rfl,hcc.out,by omega,?_,?_⟩
            · rw [hnx.out,show 15-(j+1)=14-j by omega,Nat.add_assoc a j 1]
            · rw [← Nat.add_assoc]; exact ⟨hR1,hUw⟩
      · have e2:jx s (a+j) false 1=true:=by simp [jx]; omega
        have e3:rdTo s (a+j) false 1=a+j:=by unfold rdTo; rw [e2]; rfl
        have e4:jT s (a+j) false 1=0:=by unfold jT; rw [e2]; rfl
        rw [e2,e3,e4] at HB
        rw [show 15-j=(14-j)+1 by omega,JS hend] at hnx
        have HN:=Lib.hid hnx
        have hcb:c≤65536:=by omega
        clear e2 e3 e4 hnx
        go_wp2_with fail
        refine HB.out.mono ?_
        rintro e w1 ⟨rfl,hR1,hU1⟩
        have k2:=hR1.1.cell 2 rfl
        go_wp2
        go_returns
        rw [HN.out]
        exact ⟨rfl,hR1,hU.then hU1⟩
    · have hj15:j=15:=by omega
      have hcz : ¬ (j:Int)+1≤15:=by omega
      subst hj15
      have HN:=Lib.hid (show qV (zf l) s 15 1 a 0=(none,a+15,false) from hnx)
      clear hnx
      go_wp2
      go_returns
      rw [HN.out]
      exact ⟨rfl,hRr,hU⟩
end Go.Proofs.YtfkcdnaghndgfaaGreatDoor
namespace Go.Proofs.YtfkcdnaghndgfaaGreatDoor
open Go.RowKit
def zy (s:ByteArray) (a n:Nat):Except Nat (Nat×Nat):=if a+n≤8*s.size then .ok (zW s a n,a+n) else .error 3
def yR (l:List Int) (s:ByteArray) (a:Nat):Except Nat (Nat×Nat) :=
 if zi l=3∨zi l=0 then .error 2 else
  match nxt (zf l) s a false with
  | (some x,a',_) => .ok (x,a')
  | (none,_,true) => .error 3
  | (none,_,false) => .error 2
theorem XU (n:List Nat) (s:ByteArray) (f k a c:Nat) {x:Nat} (h:(qV n s f k a c).1=some x):(qV n s f k a c).2.2=false:=by
 induction f generalizing k a c with
 | zero=>rfl
 | succ f ih =>
   by_cases h1:a<8*s.size
   · cases hx:jg n k (2*c+zW s a 1) with
     | some y=>rw [kE h1 hx]
     | none=>rw [kr h1 hx] at h ⊢; exact ih _ _ _ h
   · rw [JS h1] at h; cases h
theorem zgq (n:List Nat) (s:ByteArray) (a:Nat) {x:Nat} (h:(nxt n s a false).1=some x):(nxt n s a false).2.2=false:=XU n s 15 1 a 0 h
def DecFor (w:World) (dv:Value) (l:List Int) (b:Nat):Prop :=
 (dv = .pointer none∧(zi l=3∨zi l=0))∨(zi l≠3∧zi l≠0 ∧ ∃ d v,dv = .pointer (some ⟨d,0,none⟩)∧DcAt w d v (zf l)∧d≠b∧v.ownBlock≠some b)
theorem DecFor.upd {w w':World} {dv:Value} {l:List Int} {b:Nat} (h:DecFor w dv l b) (hU:Upd [b] w w'):DecFor w' dv l b:=by
 rcases h with h | ⟨h1,h2,d,v,e,hD,h3,h4⟩
 · exact .inl h
 · exact .inr ⟨h1,h2,d,v,e,hD.upd hU (by simpa using h3) (fun k hk hm=>by simp at hm; exact h4 (by rw [hk,hm])),h3,h4⟩
end Go.Proofs.YtfkcdnaghndgfaaGreatDoor
namespace Go.Proofs.YtfkcdnaghndgfaaGreatDoor
open Go.RowKit
def kO (s:ByteArray) (sym:Nat) (L:List Nat) (a:Nat):Except Nat ((Nat×Nat)×Nat) :=
 if sym=16 then (if L=[] then .error 2 else (zy s a 2).map fun r=>((3+r.1,L.getLastD 0),r.2))
 else if sym=17 then (zy s a 3).map fun r=>((3+r.1,0),r.2)
 else (zy s a 7).map fun r=>((11+r.1,0),r.2)
theorem vF (s:ByteArray) (a n:Nat):(∃ v,v<2^n∧a+n≤8*s.size∧zy s a n = .ok (v,a+n))∨zy s a n = .error 3:=by
 unfold zy
 by_cases h:a+n≤8*s.size
 · exact .inl ⟨_,vW s a n,h,by rw [if_pos h]⟩
 · exact .inr (by rw [if_neg h])
end Go.Proofs.YtfkcdnaghndgfaaGreatDoor
namespace Go.Proofs.YtfkcdnaghndgfaaGreatDoor
open Go.RowKit
def qS (s:ByteArray) (k:Nat) (L:List Nat) (a:Nat):Except Nat ((Nat×Nat)×Nat):=if 15<k then kO s k L a else .ok ((1,k),a)
def jd (l:List Int) (s:ByteArray) (many:Nat):Nat→List Nat→Nat→Except Nat (List Nat×Nat)
 | 0,L,a => .ok (L,a)
 | f+1,L,a =>
   if L.length<many then
    match yR l s a with
    | .error c => .error c
    | .ok r =>
      match qS s r.1 L r.2 with
      | .error c => .error c
      | .ok q=>if q.1.1≤many-L.length then jd l s many f (L++List.replicate q.1.1 q.1.2) q.2 else .error 2
   else .ok (L,a)
theorem Xs {l:List Int} {s:ByteArray} {many f a:Nat} {L:List Nat} (h : ¬ L.length<many):jd l s many f L a = .ok (L,a):=by
 cases f<;>simp [jd,h]
theorem zji (n:List Nat) (k i j:Nat) {x:Nat} (h:(idx n k i)[j]? =some x):x<i:=by
 have:=List.mem_of_getElem? h
 simp only [idx,List.mem_filter,List.mem_range] at this
 exact this.1
theorem zgA {n:List Nat} {k c x:Nat} (h:jg n k c=some x) (hk:1≤k):x<n.length:=by
 unfold jg at h
 split at h
 · rename_i hr
   have hl:=Yn n k hk
   have hj:c-fst n k<(idx n k n.length).length:=by omega
   have hx:(idx n k n.length).getD (c-fst n k) 0=x:=Option.some.inj h
   rw [List.getD,List.getElem?_eq_getElem hj] at hx
   exact zji n k n.length (c-fst n k) (by rw [List.getElem?_eq_getElem hj]; exact congrArg some hx)
 · cases h
theorem zhX (n:List Nat) (s:ByteArray) (f k a c:Nat) (hk:1≤k) {x:Nat} (h:(qV n s f k a c).1=some x):x<n.length:=by
 induction f generalizing k a c with
 | zero=>cases h
 | succ f ih =>
   by_cases h1:a<8*s.size
   · cases hx:jg n k (2*c+zW s a 1) with
     | some y=>rw [kE h1 hx] at h; cases h; exact zgA hx hk
     | none=>rw [kr h1 hx] at h; exact ih _ _ _ (by omega) h
   · rw [JS h1] at h; cases h
end Go.Proofs.YtfkcdnaghndgfaaGreatDoor
namespace Go.Proofs.YtfkcdnaghndgfaaGreatDoor
open Go.RowKit
def xd:List Nat:=[16,17,18,0,8,7,9,6,10,5,11,4,12,3,13,2,14,1,15]
def xy (s:ByteArray):Nat→Nat→List Nat→Nat→Except Nat (List Nat×Nat)
 | 0,_,L,a => .ok (L,a)
 | m+1,i,L,a =>
   match zy s a 3 with
   | .error c => .error c
   | .ok r=>xy s m (i+1) (L.set (xd.getD i 0) r.1) r.2
def ko (n:Nat) (r:List Nat×Nat):Except Nat ((List Nat×List Nat)×Nat) :=
 if 0<r.1.getD 256 0∧yU (ints (r.1.take n))=true then
  if zi (ints (r.1.drop n))=0∨yU (ints (r.1.drop n))=true then .ok ((r.1.take n,r.1.drop n),r.2) else .error 2
 else .error 2
def qC (s:ByteArray) (n m:Nat) (r:List Nat×Nat):Except Nat ((List Nat×List Nat)×Nat) :=
 if zi (ints r.1)=1 then (jd (ints r.1) s (n+m) (n+m) [] r.2) >>= ko n else .error 2
def jz (s:ByteArray) (n m k a:Nat):Except Nat ((List Nat×List Nat)×Nat) :=
 if n≤286∧m≤30 then (xy s k 0 (List.replicate 19 0) a) >>= qC s n m else .error 2
def xV (s:ByteArray) (a:Nat):Except Nat ((List Nat×List Nat)×Nat) :=
 zy s a 5 >>= fun r1=>zy s r1.2 5 >>= fun r2=>zy s r2.2 4 >>= fun r3=>jz s (257+r1.1) (1+r2.1) (4+r3.1) r3.2
theorem zbJ (i:Nat) (h:i<19):xd[i]? =some (xd.getD i 0):=by
 rw [List.getD,List.getElem?_eq_getElem h]; rfl
theorem zfk (i:Nat) (h:i<19):xd.getD i 0<19:=by
 have : ∀ i:Fin 19,xd.getD i.val 0<19:=by decide
 exact this ⟨i,h⟩
theorem zb2 (L:List Nat):zf (ints L)=L:=by simp [zf,ints,Function.comp_def]
theorem zz (L:List Nat):(ints L).length=L.length:=by simp [ints]
theorem IntsIn.part {w:World} {g n cap:Nat} {L:List Nat} (h:Row w 3 1 (.slice (some ⟨g,0,none⟩) n cap) n (zg L)) (hb : ∀ x∈L,x≤1099511627776) (off len:Nat) (hl:off+len≤L.length) :
 IntsIn w (some ⟨g,off,none⟩) (ints ((L.drop off).take len)).length (ints ((L.drop off).take len)) :=
 ⟨rfl,fun i hi=>by
  have hi':i<len:=by simp [ints] at hi; omega
  have hLi:off+i<L.length:=by omega
  have he:(ints ((L.drop off).take len))[i]=((L[off+i]:Nat):Int):=by simp [ints]
  refine ⟨g,off,rfl,?_,?_⟩
  · rw [he,Row.cell h (off+i) (zC _ _ _ (List.getElem?_eq_getElem hLi))]
  · have:=hb _ (List.getElem_mem hLi)
    rw [he]; omega⟩
theorem zhI {s:ByteArray} {k a n v a':Nat} {L:List Nat} (hL : ∀ x∈L,x≤15) (h:qS s k L a = .ok ((n,v),a')):1≤n∧v≤15:=by
 unfold qS at h
 split at h
 · unfold kO at h
   split at h
   · split at h
     · cases h
     · rename_i hL0
       rcases vF s a 2 with ⟨t,_,_,ht⟩ | ht
       · rw [ht] at h; cases h
         refine ⟨by omega,?_⟩
         rw [List.getLastD_eq_getLast?,List.getLast?_eq_some_getLast hL0]
         exact hL _ (List.getLast_mem hL0)
       · rw [ht] at h; cases h
   · split at h
     · rcases vF s a 3 with ⟨t,_,_,ht⟩ | ht
       · rw [ht] at h; cases h; omega
       · rw [ht] at h; cases h
     · rcases vF s a 7 with ⟨t,_,_,ht⟩ | ht
       · rw [ht] at h; cases h; omega
       · rw [ht] at h; cases h
 · cases h; omega
theorem zhv {l:List Int} {s:ByteArray} {many:Nat} : ∀ (f:Nat) (L:List Nat) (a:Nat) (L':List Nat) (a':Nat),(∀ x∈L,x≤15)→L.length≤many→many≤f+L.length→jd l s many f L a = .ok (L',a')→L'.length=many ∧ ∀ x∈L',x≤15:=by
 intro f
 induction f with
 | zero =>
   intro L a L' a' h15 h1 h2 h
   cases h
   exact ⟨by omega,h15⟩
 | succ f ih =>
   intro L a L' a' h15 h1 h2 h
   simp only [jd] at h
   split at h
   · split at h
     · cases h
     · split at h
       · cases h
       · rename_i q hq
         split at h
         · rename_i hle
           obtain ⟨⟨n,v⟩,a2⟩:=q
           have ho:=zhI h15 hq
           simp only at hle
           refine ih _ _ _ _ ?_ ?_ ?_ h
           · intro x hx
             rcases List.mem_append.1 hx with h | h
             · exact h15 x h
             · simp at h; omega
           · simp; omega
           · simp; omega
         · cases h
   · cases h
     exact ⟨by omega,h15⟩
end Go.Proofs.YtfkcdnaghndgfaaGreatDoor
