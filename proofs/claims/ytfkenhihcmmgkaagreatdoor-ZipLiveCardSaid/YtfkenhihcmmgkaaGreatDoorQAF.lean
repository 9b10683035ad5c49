/- The walk of the reference's reading of a symbol (swingleref04.Next). -/
import Derived.Test.YtfkenhihcmmgkaaGreatDoorQAE
import Derived.WalkLawsBesides
set_option linter.unusedVariables false
set_option linter.unusedSimpArgs false
set_option linter.unusedSectionVars false
set_option maxRecDepth 100000
set_option maxHeartbeats 12800000
namespace Go.Proofs.YtfkenhihcmmgkaaGreatDoor
open Go.RowKit
theorem zcV (n:List Nat) (k i m:Nat) : ∃ r,idx n k (i+m)=idx n k i++r:=by
 induction m with
 | zero=>exact ⟨[],by simp⟩
 | succ m ih =>
   obtain ⟨r,hr⟩:=ih;exact ⟨r++if n.getD (i+m) 0=k then [i+m] else [],by rw [← Nat.add_assoc,Qw,hr,List.append_assoc]⟩
theorem zb0 (n:List Nat) (i k:Nat) (h1:1≤k) (hi:i<n.length) (hk:n.getD i 0=k):qy n k (zS n i)=some i:=by
 have hc:zS n i=fst n k+(n.take i).count k:=by unfold zS; rw [if_neg (by omega),hk]
 have hlt:=ZT n i k hi hk;have hcn:cnt n k=n.count k:=by unfold cnt; rw [if_neg (by omega)]
 unfold qy;rw [hc,if_pos ⟨by omega,by omega⟩,Nat.add_sub_cancel_left];obtain ⟨r,hr⟩:=zcV n k (i+1) (n.length-(i+1));rw [show i+1+(n.length-(i+1))=n.length by omega,Qw,if_pos hk] at hr;have hl:=YK n k i (by omega);rw [hr,← hl,List.append_assoc,List.getD,List.getElem?_append_right (by omega)];simp
theorem symAt_none' (n:List Nat) (k c:Nat) (h : ¬ (fst n k≤c∧c<fst n k+cnt n k)):qy n k c=none:=by unfold qy; rw [if_neg h]
theorem zfw (n:List Nat) (i:Nat) (h:i<n.length):(jo n)[i]? =some (zS n i):=by simp [jo,h]
theorem zfS (x:Option Addr) (cap g b:Nat) (l:List Int) (w:World) (s:ByteArray) (a:Nat) (bad:Bool) (hI:IntsIn w x l.length l)
 (hC:Row w 24 1 (.slice (some ⟨g,0,none⟩) l.length l.length) l.length (qf (jo (zj l))))
 (hR:RdAt w b 175 s a bad) (hs:s.size≤1099511627776)
 (hx : ∀ b' off,x=some ⟨b',off,none⟩→b'∉[b]) (hgb:g≠b) (hk3:zm l≠3) :
 Calls Tryz.prog 236 #[.slice x l.length cap,.slice (some ⟨g,0,none⟩) l.length l.length,.pointer (some ⟨b,0,none⟩)] w
  (ve w b 175 s (Zl (nxt (zj l) s a bad)) (nxt (zj l) s a bad).2.1 (nxt (zj l) s a bad).2.2):=by
 obtain ⟨hok,hps⟩:=qS hk3;clear hk3;have hnl:=yj l;have h300:=(zC hok).1;cases bad with
 | true =>
   have HB:=Hi (JT b 1 w s a true hR hs);have e1:nxt (zj l) s a true=(none,a,true):=rfl;rw [e1];have e2:xh s a true 1=true:=rfl;have e3:rdTo s a true 1=a:=rfl;have e4:xg s a true 1=0:=rfl;rw [e2,e3,e4] at HB;clear e1 e2 e3 e4;go_enter Tryz.func236,Tryz.ntmps236;go_wp2;refine wp_loop_rounds 1 ?_;rw [rounds_succ];go_wp2_with fail
   refine HB.out.mono ?_;rintro e w1 ⟨rfl,hR1,hU1⟩;have k2:=hR1.1.cell 2 rfl;go_wp2;go_returns;exact ⟨rfl,hR1,hU1⟩
 | false =>
   have e1:nxt (zj l) s a false=xU (zj l) s 15 1 a 0:=rfl;rw [e1];have hpb:=Hi (fun k hk=>Ji (zj l) hps k hk);have hle:=hR.2;have HO:=Hi hok;have hRel0:Qp w b 175 s (a+0) w:=⟨hR,.refl _ _⟩;have HI:=Hi (fun w' (hU:Upd [b] w w')=>hI.upd hU hx);have HC:=Hi (fun w' (hU:Upd [b] w w')=>hC.upd hU (fun k hk hm=>by simp [Value.ownBlock] at hk hm; omega));clear hps e1 hR hI hC hx hgb hok;go_enter Tryz.func236,Tryz.ntmps236;go_wp2;go_loopg [8,9] 15 (fun g s8 s9 wr => ∃ j c,j≤15∧g=15-j∧s9 = .int .i64 ((j+1:Nat):Int)∧s8 = .int .u32 (c:Nat)∧c<2^j∧a+j≤8*s.size∧xU (zj l) s 15 1 a 0=xU (zj l) s (15-j) (j+1) (a+j) c∧Qp w b 175 s (a+j) wr)
   case atStart=>exact ⟨0,0,by omega,rfl,rfl,rfl,by simp,by omega,rfl,hRel0⟩
   case round =>
    obtain ⟨j,c,hj,rfl,rfl,rfl,hc2,haj,hnx,hRr,hU⟩:=hrel;clear hRel0;by_cases hc:j<15
    · have hcz:(j:Int)+1≤15:=(by omega);have hp15:2^j≤2^14:=Nat.pow_le_pow_right (by omega) (by omega);have HB:=Hi (JT b 1 wr s (a+j) false hRr hs);by_cases hend:a+j<8*s.size
      · have e2:xh s (a+j) false 1=false:=(by simp [xh]; omega);have e3:rdTo s (a+j) false 1=a+j+1:=(by unfold rdTo; rw [e2]; rfl);have e4:xg s (a+j) false 1=zz s (a+j) 1:=(by unfold xg; rw [e2]; rfl);rw [e2,e3,e4] at HB;have hbl:=jg s (a+j) 1;have hp16:2^(j+1)=2*2^j:=(by rw [Nat.pow_succ,Nat.mul_comm]);obtain ⟨c',hc'⟩ : ∃ c',2*c+zz s (a+j) 1=c':=⟨_,rfl⟩;have hsome : ∀ i,qy (zj l) (j+1) c'=some i→xU (zj l) s 15 1 a 0=(some i,a+j+1,false):=fun i hi=>by
         rw [hnx,show 15-j=(14-j)+1 by omega,jz hend (by rw [hc']; exact hi)]
        have hnone:qy (zj l) (j+1) c'=none→xU (zj l) s 15 1 a 0=xU (zj l) s (14-j) (j+1+1) (a+j+1) c':=fun hi=>by
         rw [hnx,show 15-j=(14-j)+1 by omega,jy hend (by rw [hc']; exact hi),hc']
        have HS:=Hi hsome;have HN:=Hi hnone;have hcc:Hid (c'<2^(j+1)):=Hi (by omega);have hcb:c'≤65536:=(by omega);have hcI:2*(c:Int)+((zz s (a+j) 1:Nat):Int)=(c':Int):=(by omega);clear hsome hnone hc' e2 e3 e4 hnx hc2 hp16;generalize zz s (a+j) 1=r at *;(go_wp2_with fail);refine HB.out.mono ?_;rintro e w1 ⟨rfl,hR1,hU1⟩;have k2:=hR1.1.cell 2 rfl;have hUw:=hU.then hU1;have hI1:=HI.out _ hUw;have hC1:=HC.out _ hUw;go_wp2;go_loopg [26] l.length (fun g s26 wx => ∃ i,i≤l.length∧g=l.length-i∧s26 = .int .i64 (i:Nat) ∧ ¬ (fst (zj l) (j+1)≤c'∧c'<fst (zj l) (j+1)+((zj l).take i).count (j+1))∧w1=wx)
        case atStart=>exact ⟨0,by omega,rfl,rfl,by simp,rfl⟩
        case round =>
         obtain ⟨i,hin,rfl,rfl,hnot,rfl⟩:=hrel;by_cases hc3:i<l.length
         · have hcz2:(i:Int)<(l.length:Int):=(by omega);obtain ⟨ba,off,rfl,c0,r1,r2⟩:=hI1.cell i hc3;have hkk:=(zC HO.out).2 _ (List.getElem_mem hc3);obtain ⟨y,hy⟩ : ∃ y:Nat,l[i]=(y:Int):=⟨l[i].toNat,by omega⟩;have hin':i<(zj l).length:=(by omega);have hnk:(zj l)[i]=y:=(by simp [zj,hy]);have hnd:(zj l).getD i 0=y:=(by rw [List.getD,List.getElem?_eq_getElem hin']; exact hnk);rw [hy] at c0 hkk;have d2:=Row.cell hC1 i (vY _ _ _ (zfw (zj l) i hin'));have hct:((zj l).take (i+1)).count (j+1)=((zj l).take i).count (j+1)+if y=j+1 then 1 else 0:=by
            rw [take_snoc' (zj l) i hin',List.count_append,hnk]; simp [List.count_cons]
           clear hy r1 r2;by_cases hyk:y=j+1
           · have hyf:((y:Int)==(j:Int)+1)=true:=(by simp; omega);have hcd:zS (zj l) i=fst (zj l) (j+1)+((zj l).take i).count (j+1):=(by unfold zS; rw [hnd,if_neg (by omega),hyk]);by_cases hcq:zS (zj l) i=c'
             · have hcf:(((zS (zj l) i:Nat):Int)==(c':Int))=true:=(by simp; omega);have hsy:=Hi (HS.out i (by rw [← hcq]; exact zb0 (zj l) i (j+1) (by omega) hin' (by rw [hnd,hyk])));clear hcd hct hcq hnot hyk hnd hnk;generalize zS (zj l) i=cd at *;go_wp2;go_returns;rw [hsy.out];exact ⟨rfl,hR1,hUw⟩
             · have hcf:(((zS (zj l) i:Nat):Int)==(c':Int))=false:=(by simp; omega);have hnot2 : ¬ (fst (zj l) (j+1)≤c'∧c'<fst (zj l) (j+1)+((zj l).take (i+1)).count (j+1)):=by
                rw [hct,if_pos hyk]; omega
               have HT:=Hi hnot2;clear hcd hct hcq hnot hnot2 hyk hnd hnk;generalize zS (zj l) i=cd at *;go_wp2;go_roundg (l.length-(i+1))
               case measure=>omega
               case rel=>exact ⟨i+1,by omega,rfl,by go_num,HT.out,rfl⟩
           · have hyf:((y:Int)==(j:Int)+1)=false:=(by simp; omega);have hnot2 : ¬ (fst (zj l) (j+1)≤c'∧c'<fst (zj l) (j+1)+((zj l).take (i+1)).count (j+1)):=by
              rw [hct,if_neg hyk]; exact hnot
             have HT:=Hi hnot2;clear hct hnot hnot2 hyk hnd hnk d2;go_wp2;go_roundg (l.length-(i+1))
             case measure=>omega
             case rel=>exact ⟨i+1,by omega,rfl,by go_num,HT.out,rfl⟩
         · have hi:i=(zj l).length:=(by omega);have hcz2 : ¬ (i:Int)<(l.length:Int):=(by omega);rw [hi,List.take_length] at hnot;have hnx:=Hi (HN.out (symAt_none' _ _ _ (by unfold cnt; rw [if_neg (by omega)]; exact hnot)));clear hnot hi;go_wp2;go_roundg (15-(j+1))
           case measure=>omega
           case rel =>
            refine ⟨j+1,c',by omega,rfl,by go_num,rfl,hcc.out,by omega,?_,?_⟩
            · rw [hnx.out,show 15-(j+1)=14-j by omega,Nat.add_assoc a j 1]
            · rw [← Nat.add_assoc]; exact ⟨hR1,hUw⟩
      · have e2:xh s (a+j) false 1=true:=(by simp [xh]; omega);have e3:rdTo s (a+j) false 1=a+j:=(by unfold rdTo; rw [e2]; rfl);have e4:xg s (a+j) false 1=0:=(by unfold xg; rw [e2]; rfl);rw [e2,e3,e4] at HB;rw [show 15-j=(14-j)+1 by omega,kJ hend] at hnx;have HN:=Hi hnx;have hcb:c≤65536:=(by omega);clear e2 e3 e4 hnx;(go_wp2_with fail);refine HB.out.mono ?_;rintro e w1 ⟨rfl,hR1,hU1⟩;have k2:=hR1.1.cell 2 rfl;go_wp2;go_returns;rw [HN.out];exact ⟨rfl,hR1,hU.then hU1⟩
    · have hj15:j=15:=(by omega);have hcz : ¬ (j:Int)+1≤15:=(by omega);subst hj15;have HN:=Hi (show xU (zj l) s 15 1 a 0=(none,a+15,false) from hnx);clear hnx;go_wp2;go_returns;rw [HN.out];exact ⟨rfl,hRr,hU⟩
def zu (s:ByteArray) (a n:Nat):Except Nat (Nat×Nat):=if a+n≤8*s.size then .ok (zz s a n,a+n) else .error 3
def yk (l:List Int) (s:ByteArray) (a:Nat):Except Nat (Nat×Nat) :=
 if zm l=3∨zm l=0 then .error 2 else
  match nxt (zj l) s a false with
  | (some x,a',_) => .ok (x,a')
  | (none,_,true) => .error 3
  | (none,_,false) => .error 2
theorem XQ (n:List Nat) (s:ByteArray) (f k a c:Nat) {x:Nat} (h:(xU n s f k a c).1=some x):(xU n s f k a c).2.2=false:=by
 induction f generalizing k a c with
 | zero=>rfl
 | succ f ih =>
   by_cases h1:a<8*s.size
   · cases hx:qy n k (2*c+zz s a 1) with
     | some y=>rw [jz h1 hx]
     | none=>rw [jy h1 hx] at h ⊢; exact ih _ _ _ h
   · rw [kJ h1] at h; cases h
theorem zaD (n:List Nat) (s:ByteArray) (a:Nat) {x:Nat} (h:(nxt n s a false).1=some x):(nxt n s a false).2.2=false:=XQ n s 15 1 a 0 h
def XM (w:World) (b:Nat) (s:ByteArray) (r:Except Nat (Value×Nat)) (e:Ending) (w':World):Prop :=
 match r with
 | .ok (v,a')=>e = .returned v∧RdAt w' b 292 s a' false∧Upd [b] w w'
 | .error c=>e = .panicked [{ v := .iface 29 (.int .i64 (c:Nat)),recovered:=false }]∧Upd [b] w w'
theorem zaz (b n:Nat) (w:World) (s:ByteArray) (a:Nat) (hR:RdAt w b 292 s a false) (hs:s.size≤1099511627776) (hn:n≤32) :
 Calls Tryz.prog 229 #[.agg #[.pointer (some ⟨b,0,none⟩)],.int .i64 (n:Nat)] w
  (XM w b s ((zu s a n).map fun r=>(.int .i64 (r.1:Nat),r.2))):=by
 have hle:=hR.2;have HB:=Hi (fun w' (hU:Upd [] w w')=>JL b (n:Nat) w' s a false (hR.upd hU (by simp)) hs);have hblt:=hR.1.lt;by_cases hc:a+n≤8*s.size
 · have e2:xh s a false (n:Nat)=false:=(by simp [xh]; omega);have e3:rdTo s a false (n:Nat)=a+n:=(by unfold rdTo; rw [e2]; simp);have e4:xg s a false (n:Nat)=zz s a n:=(by unfold xg; rw [e2]; simp);rw [e2,e3,e4] at HB;have ht:zu s a n = .ok (zz s a n,a+n):=(by unfold zu; rw [if_pos hc]);rw [ht];have hbl:=jg s a n;have hp32:2^n≤2^32:=Nat.pow_le_pow_right (by omega) hn;have hv:zz s a n<4294967296:=(by omega);clear e2 e3 e4 ht hbl hp32;generalize zz s a n=v at *;go_enter Tryz.func229,Tryz.ntmps229;go_wp2_with fail
   refine (HB.out _ ((Upd.refl [] w).alloc _)).mono ?_;rintro e w1 ⟨rfl,hR1,hU1⟩;have c1:w1.cell? ⟨w.heap.size,0,none⟩=some (.pointer (some ⟨b,0,none⟩)):=((Blk.new w [.pointer (some ⟨b,0,none⟩)] 236).upd hU1 (by simp; omega)).cell 0 rfl;go_wp2_with fail
   refine (yn b w1 _ s _ false hR1).mono ?_;rintro e w2 ⟨rfl,rfl⟩;go_wp2;go_returns;exact ⟨rfl,hR1,(((Upd.refl [b] w).alloc _).then hU1)⟩
 · have e2:xh s a false (n:Nat)=true:=(by simp [xh]; omega);have e3:rdTo s a false (n:Nat)=a:=(by unfold rdTo; rw [e2]; simp);have e4:xg s a false (n:Nat)=0:=(by unfold xg; rw [e2]; simp);rw [e2,e3,e4] at HB;have ht:zu s a n = .error 3:=(by unfold zu; rw [if_neg hc]);rw [ht];clear e2 e3 e4 ht;go_enter Tryz.func229,Tryz.ntmps229;go_wp2_with fail
   refine (HB.out _ ((Upd.refl [] w).alloc _)).mono ?_;rintro e w1 ⟨rfl,hR1,hU1⟩;have c1:w1.cell? ⟨w.heap.size,0,none⟩=some (.pointer (some ⟨b,0,none⟩)):=((Blk.new w [.pointer (some ⟨b,0,none⟩)] 236).upd hU1 (by simp; omega)).cell 0 rfl;go_wp2_with fail
   refine (yn b w1 _ s _ true hR1).mono ?_;rintro e w2 ⟨rfl,rfl⟩;go_wp2;exact ⟨rfl,rfl,(((Upd.refl [b] w).alloc _).then hU1)⟩
theorem yB (w:World):Calls Tryz.prog 234 #[.bool true] w fun e w'=>e = .returned (.tuple #[])∧w=w':=by
 go_enter Tryz.func234,Tryz.ntmps234;go_wp2;go_returns;exact ⟨rfl,rfl⟩
theorem xa (w:World):Calls Tryz.prog 234 #[.bool false] w fun e w'=>e = .panicked [{ v := .iface 29 (.int .i64 2),recovered:=false }]∧w=w':=by
 go_enter Tryz.func234,Tryz.ntmps234;go_wp2;exact ⟨rfl,rfl,rfl⟩
def DecFor (w:World) (dv:Value) (l:List Int) (b:Nat):Prop :=
 (dv = .pointer none∧(zm l=3∨zm l=0))∨(zm l≠3∧zm l≠0 ∧ ∃ d v,dv = .pointer (some ⟨d,0,none⟩)∧DcAt w d v (zj l)∧d≠b∧v.ownBlock≠some b)
theorem DecFor.upd {w w':World} {dv:Value} {l:List Int} {b:Nat} (h:DecFor w dv l b) (hU:Upd [b] w w'):DecFor w' dv l b:=by
 rcases h with h | ⟨h1,h2,d,v,e,hD,h3,h4⟩
 · exact .inl h
 · exact .inr ⟨h1,h2,d,v,e,hD.upd hU (by simpa using h3) (fun k hk hm=>by simp at hm; exact h4 (by rw [hk,hm])),h3,h4⟩
theorem Ke (b:Nat) (dv:Value) (l:List Int) (w:World) (s:ByteArray) (a:Nat) (hR:RdAt w b 292 s a false) (hs:s.size≤1099511627776) (hD:DecFor w dv l b) :
 Calls Tryz.prog 273 #[.agg #[.pointer (some ⟨b,0,none⟩)],dv] w
  (XM w b s ((yk l s a).map fun r=>(.int .i64 (r.1:Nat),r.2))):=by
 have hblt:=hR.1.lt;have hU0:Upd [] w (w.alloc (.cells #[.pointer (some ⟨b,0,none⟩)] 236)):=(Upd.refl [] w).alloc _;have hP:=Blk.new w [.pointer (some ⟨b,0,none⟩)] 236;have hR0:=hR.upd hU0 (by simp);rcases hD with ⟨rfl,hk⟩ | ⟨hk3,hk0,d,v,rfl,hD,hdb,hvb⟩
 · have ht:yk l s a = .error 2:=(by unfold yk; rw [if_pos hk]);rw [ht];clear ht;go_enter Tryz.func273,Tryz.ntmps273;go_wp2_with fail
   refine (zhd _ _).mono ?_;rintro e w1 ⟨rfl,rfl⟩;go_wp2_with fail
   refine (yn b _ _ s _ false hR0).mono ?_;rintro e w2 ⟨rfl,rfl⟩;go_wp2_with fail
   refine (xa _).mono ?_;rintro e w2 ⟨rfl,rfl⟩;go_wp2;exact ⟨rfl,rfl,hU0.mono (by simp)⟩
 · obtain ⟨hok,hps⟩:=qS hk3;have h300:(zj l).length≤300:=(by rw [yj]; exact (zC hok).1);have hNx:=zge d b v (zj l) _ s a false (hD.upd hU0 (by simp) (by simp)) hR0 hs hdb hvb hps h300;have ht:yk l s a=match nxt (zj l) s a false with
    | (some x,a',_) => .ok (x,a')
    | (none,_,true) => .error 3
    | (none,_,false) => .error 2:=by unfold yk; rw [if_neg (by omega)]
   rw [ht];clear ht;have hsb:=fun x=>@zaD (zj l) s a x;generalize nxt (zj l) s a false=rr at *;obtain ⟨o,a',bad'⟩:=rr;cases o with
   | some x =>
     have e1:Zl (some x,a',bad') = .tuple #[.int .i64 (x:Nat),.bool true]:=rfl;rw [e1] at hNx;have hbf:bad'=false:=hsb x rfl;subst hbf;have HN:=Hi hNx;clear hNx e1 hsb;go_enter Tryz.func273,Tryz.ntmps273;(go_wp2_with fail);refine HN.out.mono ?_;rintro e w1 ⟨rfl,hR1,hU1⟩;have c1:=(hP.upd hU1 (by simp; omega)).cell 0 rfl;(go_wp2_with fail);refine (yn b _ _ s _ false hR1).mono ?_;rintro e w2 ⟨rfl,rfl⟩;(go_wp2_with fail);refine (yB _).mono ?_;rintro e w2 ⟨rfl,rfl⟩;go_wp2;go_returns;exact ⟨rfl,hR1,(hU0.mono (by simp)).then hU1⟩
   | none =>
     have e1:Zl (none,a',bad') = .tuple #[.int .i64 0,.bool false]:=rfl;rw [e1] at hNx;have HN:=Hi hNx;clear hNx e1;cases bad' with
     | true =>
       go_enter Tryz.func273,Tryz.ntmps273;(go_wp2_with fail);refine HN.out.mono ?_;rintro e w1 ⟨rfl,hR1,hU1⟩;have c1:=(hP.upd hU1 (by simp; omega)).cell 0 rfl;(go_wp2_with fail);refine (yn b _ _ s _ true hR1).mono ?_;rintro e w2 ⟨rfl,rfl⟩;go_wp2;exact ⟨rfl,rfl,(hU0.mono (by simp)).then hU1⟩
     | false =>
       go_enter Tryz.func273,Tryz.ntmps273;(go_wp2_with fail);refine HN.out.mono ?_;rintro e w1 ⟨rfl,hR1,hU1⟩;have c1:=(hP.upd hU1 (by simp; omega)).cell 0 rfl;(go_wp2_with fail);refine (yn b _ _ s _ false hR1).mono ?_;rintro e w2 ⟨rfl,rfl⟩;(go_wp2_with fail);refine (xa _).mono ?_;rintro e w2 ⟨rfl,rfl⟩;go_wp2;exact ⟨rfl,rfl,(hU0.mono (by simp)).then hU1⟩
theorem yW {b n:Nat} {w:World} {s:ByteArray} {a v a':Nat} (hR:RdAt w b 292 s a false) (hs:s.size≤1099511627776) (hn:n≤32) (h:zu s a n = .ok (v,a')) :
 Calls Tryz.prog 229 #[.agg #[.pointer (some ⟨b,0,none⟩)],.int .i64 (n:Nat)] w fun e w'=>e = .returned (.int .i64 (v:Nat))∧RdAt w' b 292 s a' false∧Upd [b] w w':=by
 have hT:=zaz b n w s a hR hs hn;rw [h] at hT; exact hT
theorem xk {b n:Nat} {w:World} {s:ByteArray} {a c:Nat} (hR:RdAt w b 292 s a false) (hs:s.size≤1099511627776) (hn:n≤32) (h:zu s a n = .error c) :
 Calls Tryz.prog 229 #[.agg #[.pointer (some ⟨b,0,none⟩)],.int .i64 (n:Nat)] w fun e w'=>e = .panicked [{ v := .iface 29 (.int .i64 (c:Nat)),recovered:=false }]∧Upd [b] w w':=by
 have hT:=zaz b n w s a hR hs hn;rw [h] at hT; exact hT
theorem XD {b:Nat} {dv:Value} {l:List Int} {w:World} {s:ByteArray} {a v a':Nat} (hR:RdAt w b 292 s a false) (hs:s.size≤1099511627776) (hD:DecFor w dv l b) (h:yk l s a = .ok (v,a')) :
 Calls Tryz.prog 273 #[.agg #[.pointer (some ⟨b,0,none⟩)],dv] w fun e w'=>e = .returned (.int .i64 (v:Nat))∧RdAt w' b 292 s a' false∧Upd [b] w w':=by
 have hT:=Ke b dv l w s a hR hs hD;rw [h] at hT; exact hT
theorem QZ {b:Nat} {dv:Value} {l:List Int} {w:World} {s:ByteArray} {a c:Nat} (hR:RdAt w b 292 s a false) (hs:s.size≤1099511627776) (hD:DecFor w dv l b) (h:yk l s a = .error c) :
 Calls Tryz.prog 273 #[.agg #[.pointer (some ⟨b,0,none⟩)],dv] w fun e w'=>e = .panicked [{ v := .iface 29 (.int .i64 (c:Nat)),recovered:=false }]∧Upd [b] w w':=by
 have hT:=Ke b dv l w s a hR hs hD;rw [h] at hT; exact hT
def xj (s:ByteArray) (sym:Nat) (L:List Nat) (a:Nat):Except Nat ((Nat×Nat)×Nat) :=
 if sym=16 then (if L=[] then .error 2 else (zu s a 2).map fun r=>((3+r.1,L.getLastD 0),r.2))
 else if sym=17 then (zu s a 3).map fun r=>((3+r.1,0),r.2)
 else (zu s a 7).map fun r=>((11+r.1,0),r.2)
def Xa (r:(Nat×Nat)×Nat):Value×Nat:=(.tuple #[.int .i64 (r.1.1:Nat),.int .i64 (r.1.2:Nat)],r.2)
theorem zK (s:ByteArray) (a n:Nat):(∃ v,v<2^n∧a+n≤8*s.size∧zu s a n = .ok (v,a+n))∨zu s a n = .error 3:=by
 unfold zu;by_cases h:a+n≤8*s.size
 · exact .inl ⟨_,jg s a n,h,by rw [if_pos h]⟩
 · exact .inr (by rw [if_neg h])
theorem VY (b sym:Nat) (v:Value) (L:List Nat) (w:World) (s:ByteArray) (a:Nat) (hR:RdAt w b 292 s a false) (hs:s.size≤1099511627776)
 (hL:Row w 3 1 v L.length (zl L)) (hb:v.ownBlock≠some b) (hlen:L.length≤100000) (h15 : ∀ x∈L,x≤15) (hsym:sym≤18) :
 Calls Tryz.prog 314 #[.agg #[.pointer (some ⟨b,0,none⟩)],.int .i64 (sym:Nat),v] w
  (XM w b s ((xj s sym L a).map Xa)):=by
 have hblt:=hR.1.lt;have hU0:Upd [] w (w.alloc (.cells #[.pointer (some ⟨b,0,none⟩)] 236)):=(Upd.refl [] w).alloc _;have hP:=Blk.new w [.pointer (some ⟨b,0,none⟩)] 236;have hR0:=hR.upd hU0 (by simp);have hU0b:Upd [b] w (w.alloc (.cells #[.pointer (some ⟨b,0,none⟩)] 236)):=hU0.mono (by simp);obtain ⟨va,vc,rfl⟩:=hL.form;by_cases h16:sym=16
 · subst h16;by_cases hL0:L=[]
   · subst hL0;have hp:xj s 16 [] a = .error 2:=(by simp [xj]);rw [hp];clear hp;go_enter Tryz.func314,Tryz.ntmps314;(go_wp2_with fail);refine (xa _).mono ?_;rintro e w2 ⟨rfl,rfl⟩;go_wp2;exact ⟨rfl,rfl,hU0b⟩
   · have hpos:0<L.length:=List.length_pos_iff.2 hL0;have hpf:decide ((0:Int)<(L.length:Int))=true:=(by simp; omega);have hpz:(0:Int)<(L.length:Int):=(by omega);have hp:xj s 16 L a=(zu s a 2).map fun r=>((3+r.1,L.getLastD 0),r.2):=(by simp [xj,hL0]);rw [hp];clear hp hL0;obtain ⟨g,vc',hve,hg1,hg2⟩:=hL.form' hpos;cases hve;obtain ⟨y,hy⟩ : ∃ y,L.getLastD 0=y:=⟨_,rfl⟩;have hyl:L[L.length-1]? =some y:=by
      rw [← hy,List.getLastD_eq_getLast?,List.getLast?_eq_getElem?,List.getElem?_eq_getElem (by omega)]; rfl
     rw [hy];have d0:=Row.cell (hL.alloc (.cells #[.pointer (some ⟨b,0,none⟩)] 236)) (L.length-1) (zB _ _ _ hyl);have hgb:g≠b:=fun e=>hb (by rw [e]; rfl);have c0:=hP.cell 0 rfl;obtain ⟨M,hM⟩ : ∃ M,L.length=M+1:=⟨L.length-1,by omega⟩;rw [hM] at d0 hL hpf hpz hlen ⊢;rw [Nat.add_sub_cancel] at d0;clear hy hyl hM hb;have e1:IntKind.i64.wrap (M:Int)=(M:Int):=IntWalk.i64_in _ (by omega);have hM0:(0:Int)≤(M:Int):=(by omega);rcases zK s a 2 with ⟨t,ht4,hta,ht⟩ | ht
     · have HT:=Hi (yW (hR0.upd (Upd.drew (Upd.refl [] _)) (by simp)) hs (by omega) ht);rw [ht];go_enter Tryz.func314,Tryz.ntmps314;(go_wp2_with fail);refine (yB _).mono ?_;rintro e w2 ⟨rfl,rfl⟩;have e2:IntKind.i64.wrap (3+(t:Int))=3+(t:Int):=IntWalk.i64_in _ (by omega);have hM1:(M:Int)<(M:Int)+1:=(by omega);go_wp2
       go_region_law ((go_simp; go_at_call 229; refine HT.out.mono ?_; rintro e w4 ⟨rfl,hR4,hU4⟩; have d4:=(hU4.at (b:=g) (by simp; omega) (by simpa using hgb) M).trans d0))
       (all_goals go_wp2);(all_goals go_returns);all_goals exact ⟨by first | (simp [Act.put]; done) | (simp [Xa]; done),hR4,hU0b.drew.then hU4⟩
     · have HT:=Hi (xk (hR0.upd (Upd.drew (Upd.refl [] _)) (by simp)) hs (by omega) ht);rw [ht];go_enter Tryz.func314,Tryz.ntmps314;(go_wp2_with fail);refine (yB _).mono ?_;rintro e w2 ⟨rfl,rfl⟩;have hM1:(M:Int)<(M:Int)+1:=(by omega);go_wp2;refine wp_region_held_drew (S:=fun w'=>w'.cell? ⟨w.heap.size,0,none⟩=some (.pointer (some ⟨b,0,none⟩))∧w'.cell? ⟨g,M,none⟩=some (.int .i64 (y:Nat))) (by kernel_rfl) ⟨c0,d0⟩ (fun hHeld=>?_);refine wpAnyH_take (i:=0) (v:=?v0) rfl (by kernel_rfl) (by kernel_rfl) (by kernel_rfl) (fun _ _ _ h=>h) (Or.inl ⟨by rfl,?hy0⟩) (by assumption) ?r0
       case hy0=>(intro w hSw; (try dsimp only at hSw); go_simp; try with_reducible rfl)
       (try simp only [Act.put,List.setIfInBounds_toArray,List.set_cons_zero,List.set_cons_succ]);refine wpAnyH_take (i:=3) (v:=?v3) rfl (by kernel_rfl) (by kernel_rfl) (by kernel_rfl) (fun _ _ _ h=>h) (Or.inl ⟨by rfl,?hy3⟩) (by assumption) ?r3
       case hy3=>(intro w hSw; (try dsimp only at hSw); go_simp; try with_reducible rfl)
       (try simp only [Act.put,List.setIfInBounds_toArray,List.set_cons_zero,List.set_cons_succ]);refine wpAnyH_take (i:=4) (v:=?v4) rfl (by kernel_rfl) (by kernel_rfl) (by kernel_rfl) (fun _ _ _ h=>h) (Or.inl ⟨by rfl,?hy4⟩) (by assumption) ?r4
       case hy4=>(intro w hSw; (try dsimp only at hSw); go_simp; try with_reducible rfl)
       (try simp only [Act.put,List.setIfInBounds_toArray,List.set_cons_zero,List.set_cons_succ]);refine wpAnyH_take (i:=5) (v:=?v5) rfl (by kernel_rfl) (by kernel_rfl) (by kernel_rfl) (fun _ _ _ h=>h) (Or.inl ⟨by rfl,?hy5⟩) (by assumption) ?r5
       case hy5=>(intro w hSw; (try dsimp only at hSw); go_simp; try with_reducible rfl)
       (try simp only [Act.put,List.setIfInBounds_toArray,List.set_cons_zero,List.set_cons_succ]);refine wpAnyH_take (i:=6) (v:=?v6) rfl (by kernel_rfl) (by kernel_rfl) (by kernel_rfl) (fun _ _ _ h=>h) (Or.inl ⟨by rfl,?hy6⟩) (by assumption) ?r6
       case hy6=>(intro w hSw; (try dsimp only at hSw); go_simp; try with_reducible rfl)
       (try simp only [Act.put,List.setIfInBounds_toArray,List.set_cons_zero,List.set_cons_succ]);refine wpAnyH_take (i:=7) (v:=?v7) rfl (by kernel_rfl) (by kernel_rfl) (by kernel_rfl) (fun _ _ _ h=>h) (Or.inl ⟨by rfl,?hy7⟩) (by assumption) ?r7
       case hy7=>(intro w hSw; (try dsimp only at hSw); go_simp; try with_reducible rfl)
       (try simp only [Act.put,List.setIfInBounds_toArray,List.set_cons_zero,List.set_cons_succ]);refine wpAnyH_take (i:=8) (v:=?v8) rfl (by kernel_rfl) (by kernel_rfl) (by kernel_rfl) (fun _ _ _ h=>h) (Or.inl ⟨by rfl,?hy8⟩) (by assumption) ?r8
       case hy8=>(intro w hSw; (try dsimp only at hSw); go_simp; try with_reducible rfl)
       (try simp only [Act.put,List.setIfInBounds_toArray,List.set_cons_zero,List.set_cons_succ]);refine wpAnyH_ready (rs:=[1]) (by kernel_rfl) (by simp) ?_;refine AllReadyH.cons rfl (fun K hK=>?_) AllReadyH.nil;go_simp
       go_at_call 229
       refine HT.out.mono ?_;rintro e w4 ⟨rfl,hU4⟩;go_wp2;exact ⟨rfl,rfl,hU0b.drew.then hU4⟩
 · have h16f:((sym:Int)==16)=false:=(by simp; omega);by_cases h17:sym=17
   · subst h17;have hp:xj s 17 L a=(zu s a 3).map fun r=>((3+r.1,0),r.2):=(by simp [xj]);rw [hp];clear hp;rcases zK s a 3 with ⟨t,ht4,hta,ht⟩ | ht
     · have HT:=Hi (yW hR0 hs (by omega) ht);rw [ht];go_enter Tryz.func314,Tryz.ntmps314;(go_wp2_with fail);refine HT.out.mono ?_;rintro e w4 ⟨rfl,hR4,hU4⟩;go_wp2;go_returns;exact ⟨by first | (simp [Act.put]; done) | (simp [Xa]; done),hR4,hU0b.then hU4⟩
     · have HT:=Hi (xk hR0 hs (by omega) ht);rw [ht];go_enter Tryz.func314,Tryz.ntmps314;(go_wp2_with fail);refine HT.out.mono ?_;rintro e w4 ⟨rfl,hU4⟩;go_wp2;exact ⟨rfl,rfl,hU0b.then hU4⟩
   · have h17f:((sym:Int)==17)=false:=(by simp; omega);have hp:xj s sym L a=(zu s a 7).map fun r=>((11+r.1,0),r.2):=(by unfold xj; rw [if_neg h16,if_neg h17]);rw [hp];clear hp;rcases zK s a 7 with ⟨t,ht4,hta,ht⟩ | ht
     · have HT:=Hi (yW hR0 hs (by omega) ht);rw [ht];go_enter Tryz.func314,Tryz.ntmps314;(go_wp2_with fail);refine HT.out.mono ?_;rintro e w4 ⟨rfl,hR4,hU4⟩;go_wp2;go_returns;exact ⟨by first | (simp [Act.put]; done) | (simp [Xa]; done),hR4,hU0b.then hU4⟩
     · have HT:=Hi (xk hR0 hs (by omega) ht);rw [ht];go_enter Tryz.func314,Tryz.ntmps314;(go_wp2_with fail);refine HT.out.mono ?_;rintro e w4 ⟨rfl,hU4⟩;go_wp2;exact ⟨rfl,rfl,hU0b.then hU4⟩
def xV (s:ByteArray) (k:Nat) (L:List Nat) (a:Nat):Except Nat ((Nat×Nat)×Nat):=if 15<k then xj s k L a else .ok ((1,k),a)
def qq (l:List Int) (s:ByteArray) (many:Nat):Nat→List Nat→Nat→Except Nat (List Nat×Nat)
 | 0,L,a => .ok (L,a)
 | f+1,L,a =>
   if L.length<many then
    match yk l s a with
    | .error c => .error c
    | .ok r =>
      match xV s r.1 L r.2 with
      | .error c => .error c
      | .ok q=>if q.1.1≤many-L.length then qq l s many f (L++List.replicate q.1.1 q.1.2) q.2 else .error 2
   else .ok (L,a)
theorem YJ {l:List Int} {s:ByteArray} {many f a:Nat} {L:List Nat} (h : ¬ L.length<many):qq l s many f L a = .ok (L,a):=by
 cases f<;>simp [qq,h]
theorem zjV (n:List Nat) (k i j:Nat) {x:Nat} (h:(idx n k i)[j]? =some x):x<i:=by
 have:=List.mem_of_getElem? h;simp only [idx,List.mem_filter,List.mem_range] at this;exact this.1
theorem zgT {n:List Nat} {k c x:Nat} (h:qy n k c=some x) (hk:1≤k):x<n.length:=by
 unfold qy at h;split at h
 · rename_i hr;have hl:=jQ n k hk;have hj:c-fst n k<(idx n k n.length).length:=(by omega);have hx:(idx n k n.length).getD (c-fst n k) 0=x:=Option.some.inj h;rw [List.getD,List.getElem?_eq_getElem hj] at hx;exact zjV n k n.length (c-fst n k) (by rw [List.getElem?_eq_getElem hj]; exact congrArg some hx)
 · cases h
theorem zdW (n:List Nat) (s:ByteArray) (f k a c:Nat) (hk:1≤k) {x:Nat} (h:(xU n s f k a c).1=some x):x<n.length:=by
 induction f generalizing k a c with
 | zero=>cases h
 | succ f ih =>
   by_cases h1:a<8*s.size
   · cases hx:qy n k (2*c+zz s a 1) with
     | some y=>rw [jz h1 hx] at h; cases h; exact zgT hx hk
     | none=>rw [jy h1 hx] at h; exact ih _ _ _ (by omega) h
   · rw [kJ h1] at h; cases h
theorem Ja (l:List Int) (s:ByteArray) (a:Nat) (ha:a≤8*s.size):(∃ x a',x<l.length∧a'≤8*s.size∧a≤a'∧yk l s a = .ok (x,a')) ∨ ∃ c,(c=2∨c=3)∧yk l s a = .error c:=by
 unfold yk;split
 · exact .inr ⟨2,.inl rfl,rfl⟩
 · have hle:=zh9 (zj l) s 15 1 a 0 ha;have hlt:=fun x=>@zdW (zj l) s 15 1 a 0 (by omega) x;have e:nxt (zj l) s a false=xU (zj l) s 15 1 a 0:=rfl;rw [e];generalize xU (zj l) s 15 1 a 0=rr at *;obtain ⟨o,a',bad⟩:=rr;cases o with
   | some x=>exact .inl ⟨x,a',by have:=hlt x rfl; rwa [yj] at this,hle.2.1,hle.1,rfl⟩
   | none=>cases bad with
     | true=>exact .inr ⟨3,.inr rfl,rfl⟩
     | false=>exact .inr ⟨2,.inl rfl,rfl⟩
theorem zcU (s:ByteArray) (k:Nat) (L:List Nat) (a:Nat) (ha:a≤8*s.size) (hk:k≤18) (hL : ∀ x∈L,x≤15) :
 (∃ n v a',1≤n∧n≤200∧v≤15∧a'≤8*s.size∧xV s k L a = .ok ((n,v),a')) ∨ ∃ c,(c=2∨c=3)∧xV s k L a = .error c:=by
 unfold xV;split
 · unfold xj;split
   · split
     · exact .inr ⟨2,.inl rfl,rfl⟩
     · rename_i hL0;rcases zK s a 2 with ⟨t,ht,hta,h⟩ | h
       · rw [h]; refine .inl ⟨3+t,L.getLastD 0,a+2,by omega,by omega,?_,hta,rfl⟩;rw [List.getLastD_eq_getLast?,List.getLast?_eq_some_getLast hL0];exact hL _ (List.getLast_mem hL0)
       · rw [h]; exact .inr ⟨3,.inr rfl,rfl⟩
   · split
     · rcases zK s a 3 with ⟨t,ht,hta,h⟩ | h
       · rw [h]; exact .inl ⟨3+t,0,a+3,by omega,by omega,by omega,hta,rfl⟩
       · rw [h]; exact .inr ⟨3,.inr rfl,rfl⟩
     · rcases zK s a 7 with ⟨t,ht,hta,h⟩ | h
       · rw [h]; exact .inl ⟨11+t,0,a+7,by omega,by omega,by omega,hta,rfl⟩
       · rw [h]; exact .inr ⟨3,.inr rfl,rfl⟩
 · exact .inl ⟨1,k,a,by omega,by omega,by omega,ha,rfl⟩
def zi1 (w:World) (b:Nat) (s:ByteArray) (r:Except Nat (List Nat×Nat)) (e:Ending) (w':World):Prop :=
 match r with
 | .ok (L,a') => ∃ v,e = .returned v∧Row w' 3 1 v L.length (zl L)∧RdAt w' b 292 s a' false∧Upd [b] w w' ∧ ∀ k,v.ownBlock=some k→w.heap.size≤k
 | .error c=>e = .panicked [{ v := .iface 29 (.int .i64 (c:Nat)),recovered:=false }]∧Upd [b] w w'
def zc8 (w0:World) (b:Nat) (s:ByteArray) (L:List Nat) (v:Value) (a:Nat) (wr:World):Prop :=
 Row wr 3 1 v L.length (zl L)∧RdAt wr b 292 s a false∧Upd [b] w0 wr∧(∀ k,v.ownBlock=some k→w0.heap.size≤k) ∧ ∀ x∈L,x≤15
theorem ziq (b many:Nat) (dv:Value) (l:List Int) (w:World) (s:ByteArray) (a:Nat) (hR:RdAt w b 292 s a false) (hs:s.size≤1099511627776) (hD:DecFor w dv l b) (hl:l.length≤19) (hm:many≤1000) :
 Calls Tryz.prog 277 #[.agg #[.pointer (some ⟨b,0,none⟩)],dv,.int .i64 (many:Nat)] w
  (zi1 w b s (qq l s many many [] a)):=by
 have hblt:=hR.1.lt;have hU0:Upd [] w (w.alloc (.cells #[.pointer (some ⟨b,0,none⟩)] 236)):=(Upd.refl [] w).alloc _;have hP:=(Blk.new w [.pointer (some ⟨b,0,none⟩)] 236);have hR0:=hR.upd hU0 (by simp);have hU0b:Upd [b] w (w.alloc (.cells #[.pointer (some ⟨b,0,none⟩)] 236)):=hU0.mono (by simp);have hD0:DecFor (w.alloc (.cells #[.pointer (some ⟨b,0,none⟩)] 236)) dv l b:=hD.upd hU0b;have hsz0:(w.alloc (.cells #[.pointer (some ⟨b,0,none⟩)] 236)).heap.size=w.heap.size+1:=by simp
 obtain ⟨i0,hi0,hz0,hz1,hz2⟩:=info_parts qh;go_enter Tryz.func277,Tryz.ntmps277;go_wp2;have hRel0:zc8 (w.alloc (.cells #[.pointer (some ⟨b,0,none⟩)] 236)) b s [] (.slice none 0 0) a (w.alloc (.cells #[.pointer (some ⟨b,0,none⟩)] 236)) :=
  ⟨Row.nil _ _ _,hR0,.refl _ _,by simp [Value.ownBlock],by simp⟩
 have hU0b':=Hi hU0b;clear hR hD hR0 hU0 hU0b;generalize w.alloc (.cells #[.pointer (some ⟨b,0,none⟩)] 236)=w0 at *;go_loopg [6] many (fun g s6 wr => ∃ L f a',L.length≤many∧g=many-L.length∧many≤f+L.length∧qq l s many many [] a=qq l s many f L a'∧zc8 w0 b s L s6 a' wr)
 case atStart=>exact ⟨[],many,a,by simp,by simp,by simp,rfl,hRel0⟩
 case round =>
  obtain ⟨L,f,a',hLm,rfl,hf,hrow,hRow,hRd,hU,hfr,h15⟩:=hrel;clear hRel0;obtain ⟨va,vc,rfl⟩:=hRow.form;by_cases hc:L.length<many
  · have hcz:(L.length:Int)<(many:Int):=(by omega);obtain ⟨f,rfl⟩ : ∃ f',f=f'+1:=⟨f-1,by omega⟩;have hstep:qq l s many (f+1) L a'=match yk l s a' with
     | .error c => .error c
     | .ok r =>
       match xV s r.1 L r.2 with
       | .error c => .error c
       | .ok q=>if q.1.1≤many-L.length then qq l s many f (L++List.replicate q.1.1 q.1.2) q.2 else .error 2:=by
     simp only [qq]; rw [if_pos hc]
    have c0:=(hP.upd hU (by simp; omega)).cell 0 rfl;rcases Ja l s a' hRd.2 with ⟨x,a1,hx,ha1,_,hn⟩ | ⟨c,_,hn⟩
    · rw [hn] at hstep;have HN:=Hi (XD hRd hs (hD0.upd hU) hn);have HROW:=Hi (hrow.trans hstep);clear hrow hstep hn;have HONE:=Hi (zcU s x L a1 ha1 (by omega) h15);(go_wp2_with fail);refine HN.out.mono ?_;rintro e w4 ⟨rfl,hR4,hU4⟩;have hUw4:=hU.then hU4;have hRow4:=hRow.upd hU4 (fun k hk hm=>by have:=hfr k hk; simp at hm; omega);have c4:=(hP.upd hUw4 (by simp; omega)).cell 0 rfl;have hvb:(Value.slice va L.length vc).ownBlock≠some b:=fun h=>(by have:=hfr b h; omega);rcases HONE.out with ⟨n,k,a2,hn1,hn2,hk15,ha2,hone⟩ | ⟨c,_,hone⟩
      · have hrow2:=HROW.out;rw [hone] at hrow2;have HROW2:=Hi hrow2;have HONE2:=Hi hone;clear hone hrow2 HROW HONE;(go_upto_if 17 with fail);go_cut [7,8,18,19,20,21,22,23,24] (fun s7 s8 s18 s19 s20 s21 s22 s23 s24 wx=>s7 = .int .i64 (n:Nat)∧s8 = .int .i64 (k:Nat)∧RdAt wx b 292 s a2 false∧Upd [b] w4 wx)
        case first =>
         by_cases hx15:15<x
         · have hxz:decide ((15:Int)<(x:Int))=true:=decide_eq_true (by omega);have ha:=VY b x _ L w4 s a1 hR4 hs hRow4 hvb (by omega) h15 (by omega);have hone':xj s x L a1 = .ok ((n,k),a2):=(by rw [← HONE2.out]; unfold xV; rw [if_pos hx15]);rw [hone'] at ha;have HA:=Hi ha;clear ha hone';(go_wp2_with fail);refine HA.out.mono ?_;rintro e w5 ⟨rfl,hR5,hU5⟩;(go_wp2_with fail);go_meet;exact ⟨rfl,rfl,hR5,hU5⟩
         · have hxz:decide ((15:Int)<(x:Int))=false:=decide_eq_false (by omega);have hone':xV s x L a1 = .ok ((1,x),a1):=(by unfold xV; rw [if_neg hx15]);rw [HONE2.out] at hone';cases hone';go_wp2;go_meet;exact ⟨rfl,rfl,hR4,.refl _ _⟩
        case rest =>
         obtain ⟨rfl,rfl,hR5,hU5⟩:=hcut;have hU05:=hUw4.then hU5;have hRow5:=hRow4.upd hU5 (fun k hk hm=>by have:=hfr k hk; simp at hm; omega);clear HN hRow hRow4 hU4 hU hR4 hRd hUw4 hU5 c4 c0;by_cases hfit:n≤many-L.length
         · have hfz:decide ((n:Int)≤(many:Int)-(L.length:Int))=true:=decide_eq_true (by omega);have hE:=HROW2.out;rw [if_pos hfit] at hE;have HE:=Hi hE;clear hE;(go_wp2_with fail);refine (yB _).mono ?_;rintro e w6 ⟨rfl,rfl⟩;go_wp2;go_loopg [6,33] n (fun g s6 s33 wx => ∃ j,j≤n∧g=n-j∧s33 = .int .i64 (j:Nat)∧zc8 w0 b s (L++List.replicate j k) s6 a2 wx)
           case atStart=>exact ⟨0,by omega,rfl,rfl,by simpa using hRow5,hR5,hU05,hfr,by simpa using h15⟩
           case round =>
            obtain ⟨j,hjn,rfl,rfl,hRow6,hR6,hU6,hfr6,h156⟩:=hrel;clear hRow5 hR5 hU05 hfr;by_cases hcj:j<n
            · have hcz2:(j:Int)<(n:Int):=(by omega);have hL6:(L++List.replicate j k).length≤2000:=(by simp; omega);have hsn:=Hi (show L++List.replicate (j+1) k=(L++List.replicate j k)++[k] by rw [List.replicate_succ',List.append_assoc]);generalize L++List.replicate j k=M at *;(go_wp2_with (at_builtin; refine zH _ rfl _ _ 57 rfl 3 i0 _ 1 8 Tryz.underlying57 hi0 hz0 hz1 hz2 rfl (by omega) _ M.length _ rfl (hRow6.alloc _) ⟨wr.heap.size,0,none⟩ 1 1 [_] rfl rfl (World.news_of_block (cs := #[_]) (t:=3) (fr:=(0,0)) (heap_alloc_new _ _)) (by simp [Value.oneCell']) (by unfold maxLen; omega) (by omega) ?_));intro v2 w7 hR7 hU7 hT7;go_wp2;go_roundg (n-(j+1))
              case measure=>omega
              case rel =>
               refine ⟨j+1,by omega,rfl,by go_num,?_,(hR6.upd ((Upd.refl [] _).alloc _) (by simp)).upd hU7 ?_,(hU6.alloc _).trans hU7 ?_,?_,?_⟩
               · rw [hsn.out,List.length_append,show zl (M++[k])=zl M++[.int .i64 (k:Int)] by simp [zl]];exact hR7
               · intro hm;have:=hfr6 b (by simpa using hm);omega
               · intro q hq; right; exact hfr6 q (by simpa using hq)
               · intro q hq;rcases hT7 with h | ⟨g,h1,h2⟩
                 · exact hfr6 q (by rw [← h]; exact hq)
                 · rw [h1] at hq; simp at hq h2; have:=hU6.size; omega
               · rw [hsn.out];intro q hq;rcases List.mem_append.1 hq with h | h
                 · exact h156 q h
                 · simp at h; omega
            · have hcz2 : ¬ (j:Int)<(n:Int):=(by omega);have hj:j=n:=(by omega);subst hj;go_wp2;go_roundg (many-(L++List.replicate j k).length)
              case measure=>simp; omega
              case rel =>
               refine ⟨L++List.replicate j k,f,a2,by simp; omega,rfl,by simp; omega,HE.out,hRow6,hR6,hU6,hfr6,h156⟩
         · have hfz:decide ((n:Int)≤(many:Int)-(L.length:Int))=false:=decide_eq_false (by omega);have hE:=HROW2.out;rw [if_neg hfit] at hE;have HE:=Hi hE;clear hE;(go_wp2_with fail);refine (xa _).mono ?_;rintro e w6 ⟨rfl,rfl⟩;go_wp2;rw [HE.out];exact ⟨rfl,rfl,hU0b'.out.then hU05⟩
      · have hrow2:=HROW.out;rw [hone] at hrow2;have HE:=Hi hrow2;have hx15:15<x:=by
         apply Classical.byContradiction;intro h;unfold xV at hone;rw [if_neg h] at hone;cases hone
        have hxz:(15:Int)<(x:Int):=(by omega);have ha:=VY b x _ L w4 s a1 hR4 hs hRow4 hvb (by omega) h15 (by omega);have hone':xj s x L a1 = .error c:=(by rw [← hone]; unfold xV; rw [if_pos hx15]);rw [hone'] at ha;have HA:=Hi ha;clear ha hone hone' hrow2 HROW HONE;(go_wp2_with fail);refine HA.out.mono ?_;rintro e w5 ⟨rfl,hU5⟩;go_wp2;rw [HE.out];exact ⟨rfl,rfl,hU0b'.out.then (hUw4.then hU5)⟩
    · rw [hn] at hstep;have HN:=Hi (QZ hRd hs (hD0.upd hU) hn);have HE:=Hi (hrow.trans hstep);clear hrow hstep hn;generalize L.length=N at *;(go_wp2_with fail);refine HN.out.mono ?_;rintro e w4 ⟨rfl,hU4⟩;go_wp2;rw [HE.out];exact ⟨rfl,rfl,hU0b'.out.then (hU.then hU4)⟩
  · have hcz : ¬ (L.length:Int)<(many:Int):=(by omega);rw [YJ hc] at hrow;have HE:=Hi hrow;clear hrow;go_wp2;go_returns;rw [HE.out];exact ⟨_,rfl,hRow,hRd,hU0b'.out.then hU,fun k hk=>by have:=hfr k hk; omega⟩
end Go.Proofs.YtfkenhihcmmgkaaGreatDoor
