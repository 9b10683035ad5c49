/- The walk of the reference's reading of a symbol (swingleref04.Next). -/
import Derived.Test.YtfkcdnaghndgfaaGreatDoorQAF
import Derived.Test.YtfkcdnaghndgfaaGreatDoorQAE
import Derived.WalkLawsBesides
set_option linter.unusedVariables false
set_option linter.unusedSimpArgs false
set_option linter.unusedSectionVars false
namespace Go.Proofs.YtfkcdnaghndgfaaGreatDoor
open Go.RowKit
theorem zbu (n:List Nat) (k i m:Nat) : ∃ r,idx n k (i+m)=idx n k i++r:=by
 induction m with
 | zero=>exact ⟨[],by simp⟩
 | succ m ih =>
   obtain ⟨r,hr⟩:=ih
   exact ⟨r++if n.getD (i+m) 0=k then [i+m] else [],by rw [← Nat.add_assoc,Qc,hr,List.append_assoc]⟩
theorem zbH (n:List Nat) (i k:Nat) (h1:1≤k) (hi:i<n.length) (hk:n.getD i 0=k):qx n k (zF n i)=some i:=by
 have hc:zF n i=fst n k+(n.take i).count k:=by unfold zF; rw [if_neg (by omega),hk]
 have hlt:=Zl n i k hi hk
 have hcn:cnt n k=n.count k:=by unfold cnt; rw [if_neg (by omega)]
 unfold qx
 rw [hc,if_pos ⟨by omega,by omega⟩,Nat.add_sub_cancel_left]
 obtain ⟨r,hr⟩:=zbu n k (i+1) (n.length-(i+1))
 rw [show i+1+(n.length-(i+1))=n.length by omega,Qc,if_pos hk] at hr
 have hl:=Xq n k i (by omega)
 rw [hr,← hl,List.append_assoc,List.getD,List.getElem?_append_right (by omega)]
 simp
theorem symAt_none' (n:List Nat) (k c:Nat) (h : ¬ (fst n k≤c∧c<fst n k+cnt n k)):qx n k c=none:=by unfold qx; rw [if_neg h]
theorem zeS (n:List Nat) (i:Nat) (h:i<n.length):(jq n)[i]? =some (zF n i):=by simp [jq,h]
set_option maxRecDepth 100000 in
set_option maxHeartbeats 3200000 in
theorem zdy (x:Option Addr) (cap g b:Nat) (l:List Int) (w:World) (s:ByteArray) (a:Nat) (bad:Bool) (hI:IntsIn w x l.length l)
 (hC:Row w 22 1 (.slice (some ⟨g,0,none⟩) l.length l.length) l.length (qa (jq (ze l))))
 (hR:RdAt w b 103 s a bad) (hs:s.size≤1099511627776)
 (hx : ∀ b' off,x=some ⟨b',off,none⟩→b'∉[b]) (hgb:g≠b) (hk3:zg l≠3) :
 Calls Tryz.prog 145 #[.slice x l.length cap,.slice (some ⟨g,0,none⟩) l.length l.length,.pointer (some ⟨b,0,none⟩)] w
  (vr w b 103 s (QA (nxt (ze l) s a bad)) (nxt (ze l) s a bad).2.1 (nxt (ze l) s a bad).2.2):=by
 obtain ⟨hok,hps⟩:=xz hk3
 clear hk3
 have hnl:=zZ l
 have h300:=(zy hok).1
 cases bad with
 | true =>
   have HB:=Lib.hid (Jr b 1 w s a true hR hs)
   have e1:nxt (ze l) s a true=(none,a,true):=rfl
   rw [e1]
   have e2:yW s a true 1=true:=rfl
   have e3:rdTo s a true 1=a:=rfl
   have e4:yX s a true 1=0:=rfl
   rw [e2,e3,e4] at HB
   clear e1 e2 e3 e4
   go_enter Tryz.func145,Tryz.ntmps145
   go_wp2
   refine wp_loop_rounds 1 ?_
   rw [rounds_succ]
   go_wp2_with fail
   refine HB.out.mono ?_
   rintro e w1 ⟨rfl,hR1,hU1⟩
   have k2:=hR1.1.cell 2 rfl
   go_wp2
   go_returns
   exact ⟨rfl,hR1,hU1⟩
 | false =>
   have e1:nxt (ze l) s a false=xR (ze l) s 15 1 a 0:=rfl
   rw [e1]
   have hpb:=Lib.hid (fun k hk=>Ja (ze l) hps k hk)
   have hle:=hR.2
   have HO:=Lib.hid hok
   have hRel0:Qn w b 103 s (a+0) w:=⟨hR,.refl _ _⟩
   have HI:=Lib.hid (fun w' (hU:Upd [b] w w')=>hI.upd hU hx)
   have HC:=Lib.hid (fun w' (hU:Upd [b] w w')=>hC.upd hU (fun k hk hm=>by simp [Value.ownBlock] at hk hm; omega))
   clear hps e1 hR hI hC hx hgb hok
   go_enter Tryz.func145,Tryz.ntmps145
   go_wp2
   go_loopg [8,9] 15 (fun g s8 s9 wr => ∃ j c,j≤15∧g=15-j∧s9 = .int .i64 ((j+1:Nat):Int)∧s8 = .int .u32 (c:Nat)∧c<2^j∧a+j≤8*s.size∧xR (ze l) s 15 1 a 0=xR (ze l) s (15-j) (j+1) (a+j) c∧Qn w b 103 s (a+j) wr)
   case atStart=>exact ⟨0,0,by omega,rfl,rfl,rfl,by simp,by omega,rfl,hRel0⟩
   case round =>
    obtain ⟨j,c,hj,rfl,rfl,rfl,hc2,haj,hnx,hRr,hU⟩:=hrel
    clear hRel0
    by_cases hc:j<15
    · have hcz:(j:Int)+1≤15:=by omega
      have hp15:2^j≤2^14:=Nat.pow_le_pow_right (by omega) (by omega)
      have HB:=Lib.hid (Jr b 1 wr s (a+j) false hRr hs)
      by_cases hend:a+j<8*s.size
      · have e2:yW s (a+j) false 1=false:=by simp [yW]; omega
        have e3:rdTo s (a+j) false 1=a+j+1:=by unfold rdTo; rw [e2]; rfl
        have e4:yX s (a+j) false 1=zu s (a+j) 1:=by unfold yX; rw [e2]; rfl
        rw [e2,e3,e4] at HB
        have hbl:=jh s (a+j) 1
        have hp16:2^(j+1)=2*2^j:=by rw [Nat.pow_succ,Nat.mul_comm]
        obtain ⟨c',hc'⟩ : ∃ c',2*c+zu s (a+j) 1=c':=⟨_,rfl⟩
        have hsome : ∀ i,qx (ze l) (j+1) c'=some i→xR (ze l) s 15 1 a 0=(some i,a+j+1,false):=fun i hi=>by
         rw [hnx,show 15-j=(14-j)+1 by omega,jz hend (by rw [hc']; exact hi)]
        have hnone:qx (ze l) (j+1) c'=none→xR (ze l) s 15 1 a 0=xR (ze l) s (14-j) (j+1+1) (a+j+1) c':=fun hi=>by
         rw [hnx,show 15-j=(14-j)+1 by omega,jy hend (by rw [hc']; exact hi),hc']
        have HS:=Lib.hid hsome
        have HN:=Lib.hid hnone
        have hcc:Hid (c'<2^(j+1)):=Lib.hid (by omega)
        have hcb:c'≤65536:=by omega
        have hcI:2*(c:Int)+((zu s (a+j) 1:Nat):Int)=(c':Int):=by omega
        clear hsome hnone hc' e2 e3 e4 hnx hc2 hp16
        generalize zu s (a+j) 1=r at *
        go_wp2_with fail
        refine HB.out.mono ?_
        rintro e w1 ⟨rfl,hR1,hU1⟩
        have k2:=hR1.1.cell 2 rfl
        have hUw:=hU.then hU1
        have hI1:=HI.out _ hUw
        have hC1:=HC.out _ hUw
        go_wp2
        go_loopg [26] l.length (fun g s26 wx => ∃ i,i≤l.length∧g=l.length-i∧s26 = .int .i64 (i:Nat) ∧ ¬ (fst (ze l) (j+1)≤c'∧c'<fst (ze l) (j+1)+((ze l).take i).count (j+1))∧w1=wx)
        case atStart=>exact ⟨0,by omega,rfl,rfl,by simp,rfl⟩
        case round =>
         obtain ⟨i,hin,rfl,rfl,hnot,rfl⟩:=hrel
         by_cases hc3:i<l.length
         · have hcz2:(i:Int)<(l.length:Int):=by omega
           obtain ⟨ba,off,rfl,c0,r1,r2⟩:=hI1.cell i hc3
           have hkk:=(zy HO.out).2 _ (List.getElem_mem hc3)
           obtain ⟨y,hy⟩ : ∃ y:Nat,l[i]=(y:Int):=⟨l[i].toNat,by omega⟩
           have hin':i<(ze l).length:=by omega
           have hnk:(ze l)[i]=y:=by simp [ze,hy]
           have hnd:(ze l).getD i 0=y:=by rw [List.getD,List.getElem?_eq_getElem hin']; exact hnk
           rw [hy] at c0 hkk
           have d2:=Row.cell hC1 i (vN _ _ _ (zeS (ze l) i hin'))
           have hct:((ze l).take (i+1)).count (j+1)=((ze l).take i).count (j+1)+if y=j+1 then 1 else 0:=by
            rw [take_snoc' (ze l) i hin',List.count_append,hnk]; simp [List.count_cons]
           clear hy r1 r2
           by_cases hyk:y=j+1
           · have hyf:((y:Int)==(j:Int)+1)=true:=by simp; omega
             have hcd:zF (ze l) i=fst (ze l) (j+1)+((ze l).take i).count (j+1):=by unfold zF; rw [hnd,if_neg (by omega),hyk]
             by_cases hcq:zF (ze l) i=c'
             · have hcf:(((zF (ze l) i:Nat):Int)==(c':Int))=true:=by simp; omega
               have hsy:=Lib.hid (HS.out i (by rw [← hcq]; exact zbH (ze l) i (j+1) (by omega) hin' (by rw [hnd,hyk])))
               clear hcd hct hcq hnot hyk hnd hnk
               generalize zF (ze l) i=cd at *
               go_wp2
               go_returns
               rw [hsy.out]
               exact ⟨rfl,hR1,hUw⟩
             · have hcf:(((zF (ze l) i:Nat):Int)==(c':Int))=false:=by simp; omega
               have hnot2 : ¬ (fst (ze l) (j+1)≤c'∧c'<fst (ze l) (j+1)+((ze l).take (i+1)).count (j+1)):=by
                rw [hct,if_pos hyk]; omega
               have HT:=Lib.hid hnot2
               clear hcd hct hcq hnot hnot2 hyk hnd hnk
               generalize zF (ze l) i=cd at *
               go_wp2
               go_roundg (l.length-(i+1))
               case measure=>omega
               case rel=>exact ⟨i+1,by omega,rfl,by go_num,HT.out,rfl⟩
           · have hyf:((y:Int)==(j:Int)+1)=false:=by simp; omega
             have hnot2 : ¬ (fst (ze l) (j+1)≤c'∧c'<fst (ze l) (j+1)+((ze l).take (i+1)).count (j+1)):=by
              rw [hct,if_neg hyk]; exact hnot
             have HT:=Lib.hid hnot2
             clear hct hnot hnot2 hyk hnd hnk d2
             go_wp2
             go_roundg (l.length-(i+1))
             case measure=>omega
             case rel=>exact ⟨i+1,by omega,rfl,by go_num,HT.out,rfl⟩
         · have hi:i=(ze l).length:=by omega
           have hcz2 : ¬ (i:Int)<(l.length:Int):=by omega
           rw [hi,List.take_length] at hnot
           have hnx:=Lib.hid (HN.out (symAt_none' _ _ _ (by unfold cnt; rw [if_neg (by omega)]; exact hnot)))
           clear hnot hi
           go_wp2
           go_roundg (15-(j+1))
           case measure=>omega
           case rel =>
            refine ⟨j+1,c',by omega,rfl,by go_num,rfl,hcc.out,by omega,?_,?_⟩
            · rw [hnx.out,show 15-(j+1)=14-j by omega,Nat.add_assoc a j 1]
            · rw [← Nat.add_assoc]; exact ⟨hR1,hUw⟩
      · have e2:yW s (a+j) false 1=true:=by simp [yW]; omega
        have e3:rdTo s (a+j) false 1=a+j:=by unfold rdTo; rw [e2]; rfl
        have e4:yX s (a+j) false 1=0:=by unfold yX; rw [e2]; rfl
        rw [e2,e3,e4] at HB
        rw [show 15-j=(14-j)+1 by omega,kJ hend] at hnx
        have HN:=Lib.hid hnx
        have hcb:c≤65536:=by omega
        clear e2 e3 e4 hnx
        go_wp2_with fail
        refine HB.out.mono ?_
        rintro e w1 ⟨rfl,hR1,hU1⟩
        have k2:=hR1.1.cell 2 rfl
        go_wp2
        go_returns
        rw [HN.out]
        exact ⟨rfl,hR1,hU.then hU1⟩
    · have hj15:j=15:=by omega
      have hcz : ¬ (j:Int)+1≤15:=by omega
      subst hj15
      have HN:=Lib.hid (show xR (ze l) s 15 1 a 0=(none,a+15,false) from hnx)
      clear hnx
      go_wp2
      go_returns
      rw [HN.out]
      exact ⟨rfl,hRr,hU⟩
end Go.Proofs.YtfkcdnaghndgfaaGreatDoor
namespace Go.Proofs.YtfkcdnaghndgfaaGreatDoor
open Go.RowKit
def zp (s:ByteArray) (a n:Nat):Except Nat (Nat×Nat):=if a+n≤8*s.size then .ok (zu s a n,a+n) else .error 3
def yc (l:List Int) (s:ByteArray) (a:Nat):Except Nat (Nat×Nat) :=
 if zg l=3∨zg l=0 then .error 2 else
  match nxt (ze l) s a false with
  | (some x,a',_) => .ok (x,a')
  | (none,_,true) => .error 3
  | (none,_,false) => .error 2
theorem Yo (n:List Nat) (s:ByteArray) (f k a c:Nat) {x:Nat} (h:(xR n s f k a c).1=some x):(xR n s f k a c).2.2=false:=by
 induction f generalizing k a c with
 | zero=>rfl
 | succ f ih =>
   by_cases h1:a<8*s.size
   · cases hx:qx n k (2*c+zu s a 1) with
     | some y=>rw [jz h1 hx]
     | none=>rw [jy h1 hx] at h ⊢; exact ih _ _ _ h
   · rw [kJ h1] at h; cases h
theorem zax (n:List Nat) (s:ByteArray) (a:Nat) {x:Nat} (h:(nxt n s a false).1=some x):(nxt n s a false).2.2=false:=Yo n s 15 1 a 0 h
def Yi (w:World) (b:Nat) (s:ByteArray) (r:Except Nat (Value×Nat)) (e:Ending) (w':World):Prop :=
 match r with
 | .ok (v,a')=>e = .returned v∧RdAt w' b 194 s a' false∧Upd [b] w w'
 | .error c=>e = .panicked [{ v := .iface 27 (.int .i64 (c:Nat)),recovered:=false }]∧Upd [b] w w'
set_option maxHeartbeats 1600000 in
theorem WR (b n:Nat) (w:World) (s:ByteArray) (a:Nat) (hR:RdAt w b 194 s a false) (hs:s.size≤1099511627776) (hn:n≤32) :
 Calls Tryz.prog 139 #[.agg #[.pointer (some ⟨b,0,none⟩)],.int .i64 (n:Nat)] w
  (Yi w b s ((zp s a n).map fun r=>(.int .i64 (r.1:Nat),r.2))):=by
 have hle:=hR.2
 have HB:=Lib.hid (fun w' (hU:Upd [] w w')=>Jy b (n:Nat) w' s a false (hR.upd hU (by simp)) hs)
 have hblt:=hR.1.lt
 by_cases hc:a+n≤8*s.size
 · have e2:yW s a false (n:Nat)=false:=by simp [yW]; omega
   have e3:rdTo s a false (n:Nat)=a+n:=by unfold rdTo; rw [e2]; simp
   have e4:yX s a false (n:Nat)=zu s a n:=by unfold yX; rw [e2]; simp
   rw [e2,e3,e4] at HB
   have ht:zp s a n = .ok (zu s a n,a+n):=by unfold zp; rw [if_pos hc]
   rw [ht]
   have hbl:=jh s a n
   have hp32:2^n≤2^32:=Nat.pow_le_pow_right (by omega) hn
   have hv:zu s a n<4294967296:=by omega
   clear e2 e3 e4 ht hbl hp32
   generalize zu s a n=v at *
   go_enter Tryz.func139,Tryz.ntmps139
   go_wp2_with fail
   refine (HB.out _ ((Upd.refl [] w).alloc _)).mono ?_
   rintro e w1 ⟨rfl,hR1,hU1⟩
   have c1:w1.cell? ⟨w.heap.size,0,none⟩=some (.pointer (some ⟨b,0,none⟩)):=((Blk.new w [.pointer (some ⟨b,0,none⟩)] 153).upd hU1 (by simp; omega)).cell 0 rfl
   go_wp2_with fail
   refine (yf b w1 _ s _ false hR1).mono ?_
   rintro e w2 ⟨rfl,rfl⟩
   go_wp2
   go_returns
   exact ⟨rfl,hR1,(((Upd.refl [b] w).alloc _).then hU1)⟩
 · have e2:yW s a false (n:Nat)=true:=by simp [yW]; omega
   have e3:rdTo s a false (n:Nat)=a:=by unfold rdTo; rw [e2]; simp
   have e4:yX s a false (n:Nat)=0:=by unfold yX; rw [e2]; simp
   rw [e2,e3,e4] at HB
   have ht:zp s a n = .error 3:=by unfold zp; rw [if_neg hc]
   rw [ht]
   clear e2 e3 e4 ht
   go_enter Tryz.func139,Tryz.ntmps139
   go_wp2_with fail
   refine (HB.out _ ((Upd.refl [] w).alloc _)).mono ?_
   rintro e w1 ⟨rfl,hR1,hU1⟩
   have c1:w1.cell? ⟨w.heap.size,0,none⟩=some (.pointer (some ⟨b,0,none⟩)):=((Blk.new w [.pointer (some ⟨b,0,none⟩)] 153).upd hU1 (by simp; omega)).cell 0 rfl
   go_wp2_with fail
   refine (yf b w1 _ s _ true hR1).mono ?_
   rintro e w2 ⟨rfl,rfl⟩
   go_wp2
   exact ⟨rfl,rfl,(((Upd.refl [b] w).alloc _).then hU1)⟩
theorem yw (w:World):Calls Tryz.prog 143 #[.bool true] w fun e w'=>e = .returned (.tuple #[])∧w=w':=by
 go_enter Tryz.func143,Tryz.ntmps143
 go_wp2
 go_returns
 exact ⟨rfl,rfl⟩
theorem yR (w:World):Calls Tryz.prog 143 #[.bool false] w fun e w'=>e = .panicked [{ v := .iface 27 (.int .i64 2),recovered:=false }]∧w=w':=by
 go_enter Tryz.func143,Tryz.ntmps143
 go_wp2
 exact ⟨rfl,rfl,rfl⟩
def DecFor (w:World) (dv:Value) (l:List Int) (b:Nat):Prop :=
 (dv = .pointer none∧(zg l=3∨zg l=0))∨(zg l≠3∧zg l≠0 ∧ ∃ d v,dv = .pointer (some ⟨d,0,none⟩)∧DcAt w d v (ze l)∧d≠b∧v.ownBlock≠some b)
theorem DecFor.upd {w w':World} {dv:Value} {l:List Int} {b:Nat} (h:DecFor w dv l b) (hU:Upd [b] w w'):DecFor w' dv l b:=by
 rcases h with h | ⟨h1,h2,d,v,e,hD,h3,h4⟩
 · exact .inl h
 · exact .inr ⟨h1,h2,d,v,e,hD.upd hU (by simpa using h3) (fun k hk hm=>by simp at hm; exact h4 (by rw [hk,hm])),h3,h4⟩
set_option maxHeartbeats 1600000 in
theorem VS (b:Nat) (dv:Value) (l:List Int) (w:World) (s:ByteArray) (a:Nat) (hR:RdAt w b 194 s a false) (hs:s.size≤1099511627776) (hD:DecFor w dv l b) :
 Calls Tryz.prog 178 #[.agg #[.pointer (some ⟨b,0,none⟩)],dv] w
  (Yi w b s ((yc l s a).map fun r=>(.int .i64 (r.1:Nat),r.2))):=by
 have hblt:=hR.1.lt
 have hU0:Upd [] w (w.alloc (.cells #[.pointer (some ⟨b,0,none⟩)] 153)):=(Upd.refl [] w).alloc _
 have hP:=Blk.new w [.pointer (some ⟨b,0,none⟩)] 153
 have hR0:=hR.upd hU0 (by simp)
 rcases hD with ⟨rfl,hk⟩ | ⟨hk3,hk0,d,v,rfl,hD,hdb,hvb⟩
 · have ht:yc l s a = .error 2:=by unfold yc; rw [if_pos hk]
   rw [ht]
   clear ht
   go_enter Tryz.func178,Tryz.ntmps178
   go_wp2_with fail
   refine (zfr _ _).mono ?_
   rintro e w1 ⟨rfl,rfl⟩
   go_wp2_with fail
   refine (yf b _ _ s _ false hR0).mono ?_
   rintro e w2 ⟨rfl,rfl⟩
   go_wp2_with fail
   refine (yR _).mono ?_
   rintro e w2 ⟨rfl,rfl⟩
   go_wp2
   exact ⟨rfl,rfl,hU0.mono (by simp)⟩
 · obtain ⟨hok,hps⟩:=xz hk3
   have h300:(ze l).length≤300:=by rw [zZ]; exact (zy hok).1
   have hNx:=zfw d b v (ze l) _ s a false (hD.upd hU0 (by simp) (by simp)) hR0 hs hdb hvb hps h300
   have ht:yc l s a=match nxt (ze l) s a false with
    | (some x,a',_) => .ok (x,a')
    | (none,_,true) => .error 3
    | (none,_,false) => .error 2:=by unfold yc; rw [if_neg (by omega)]
   rw [ht]
   clear ht
   have hsb:=fun x=>@zax (ze l) s a x
   generalize nxt (ze l) s a false=rr at *
   obtain ⟨o,a',bad'⟩:=rr
   cases o with
   | some x =>
     have e1:QA (some x,a',bad') = .tuple #[.int .i64 (x:Nat),.bool true]:=rfl
     rw [e1] at hNx
     have hbf:bad'=false:=hsb x rfl
     subst hbf
     have HN:=Lib.hid hNx
     clear hNx e1 hsb
     go_enter Tryz.func178,Tryz.ntmps178
     go_wp2_with fail
     refine HN.out.mono ?_
     rintro e w1 ⟨rfl,hR1,hU1⟩
     have c1:=(hP.upd hU1 (by simp; omega)).cell 0 rfl
     go_wp2_with fail
     refine (yf b _ _ s _ false hR1).mono ?_
     rintro e w2 ⟨rfl,rfl⟩
     go_wp2_with fail
     refine (yw _).mono ?_
     rintro e w2 ⟨rfl,rfl⟩
     go_wp2
     go_returns
     exact ⟨rfl,hR1,(hU0.mono (by simp)).then hU1⟩
   | none =>
     have e1:QA (none,a',bad') = .tuple #[.int .i64 0,.bool false]:=rfl
     rw [e1] at hNx
     have HN:=Lib.hid hNx
     clear hNx e1
     cases bad' with
     | true =>
       go_enter Tryz.func178,Tryz.ntmps178
       go_wp2_with fail
       refine HN.out.mono ?_
       rintro e w1 ⟨rfl,hR1,hU1⟩
       have c1:=(hP.upd hU1 (by simp; omega)).cell 0 rfl
       go_wp2_with fail
       refine (yf b _ _ s _ true hR1).mono ?_
       rintro e w2 ⟨rfl,rfl⟩
       go_wp2
       exact ⟨rfl,rfl,(hU0.mono (by simp)).then hU1⟩
     | false =>
       go_enter Tryz.func178,Tryz.ntmps178
       go_wp2_with fail
       refine HN.out.mono ?_
       rintro e w1 ⟨rfl,hR1,hU1⟩
       have c1:=(hP.upd hU1 (by simp; omega)).cell 0 rfl
       go_wp2_with fail
       refine (yf b _ _ s _ false hR1).mono ?_
       rintro e w2 ⟨rfl,rfl⟩
       go_wp2_with fail
       refine (yR _).mono ?_
       rintro e w2 ⟨rfl,rfl⟩
       go_wp2
       exact ⟨rfl,rfl,(hU0.mono (by simp)).then hU1⟩
theorem yV {b n:Nat} {w:World} {s:ByteArray} {a v a':Nat} (hR:RdAt w b 194 s a false) (hs:s.size≤1099511627776) (hn:n≤32) (h:zp s a n = .ok (v,a')) :
 Calls Tryz.prog 139 #[.agg #[.pointer (some ⟨b,0,none⟩)],.int .i64 (n:Nat)] w fun e w'=>e = .returned (.int .i64 (v:Nat))∧RdAt w' b 194 s a' false∧Upd [b] w w':=by
 have hT:=WR b n w s a hR hs hn
 rw [h] at hT; exact hT
theorem xe {b n:Nat} {w:World} {s:ByteArray} {a c:Nat} (hR:RdAt w b 194 s a false) (hs:s.size≤1099511627776) (hn:n≤32) (h:zp s a n = .error c) :
 Calls Tryz.prog 139 #[.agg #[.pointer (some ⟨b,0,none⟩)],.int .i64 (n:Nat)] w fun e w'=>e = .panicked [{ v := .iface 27 (.int .i64 (c:Nat)),recovered:=false }]∧Upd [b] w w':=by
 have hT:=WR b n w s a hR hs hn
 rw [h] at hT; exact hT
theorem ZU {b:Nat} {dv:Value} {l:List Int} {w:World} {s:ByteArray} {a v a':Nat} (hR:RdAt w b 194 s a false) (hs:s.size≤1099511627776) (hD:DecFor w dv l b) (h:yc l s a = .ok (v,a')) :
 Calls Tryz.prog 178 #[.agg #[.pointer (some ⟨b,0,none⟩)],dv] w fun e w'=>e = .returned (.int .i64 (v:Nat))∧RdAt w' b 194 s a' false∧Upd [b] w w':=by
 have hT:=VS b dv l w s a hR hs hD
 rw [h] at hT; exact hT
theorem QV {b:Nat} {dv:Value} {l:List Int} {w:World} {s:ByteArray} {a c:Nat} (hR:RdAt w b 194 s a false) (hs:s.size≤1099511627776) (hD:DecFor w dv l b) (h:yc l s a = .error c) :
 Calls Tryz.prog 178 #[.agg #[.pointer (some ⟨b,0,none⟩)],dv] w fun e w'=>e = .panicked [{ v := .iface 27 (.int .i64 (c:Nat)),recovered:=false }]∧Upd [b] w w':=by
 have hT:=VS b dv l w s a hR hs hD
 rw [h] at hT; exact hT
end Go.Proofs.YtfkcdnaghndgfaaGreatDoor
namespace Go.Proofs.YtfkcdnaghndgfaaGreatDoor
open Go.RowKit
def xa (s:ByteArray) (sym:Nat) (L:List Nat) (a:Nat):Except Nat ((Nat×Nat)×Nat) :=
 if sym=16 then (if L=[] then .error 2 else (zp s a 2).map fun r=>((3+r.1,L.getLastD 0),r.2))
 else if sym=17 then (zp s a 3).map fun r=>((3+r.1,0),r.2)
 else (zp s a 7).map fun r=>((11+r.1,0),r.2)
def ZP (r:(Nat×Nat)×Nat):Value×Nat:=(.tuple #[.int .i64 (r.1.1:Nat),.int .i64 (r.1.2:Nat)],r.2)
theorem zA (s:ByteArray) (a n:Nat):(∃ v,v<2^n∧a+n≤8*s.size∧zp s a n = .ok (v,a+n))∨zp s a n = .error 3:=by
 unfold zp
 by_cases h:a+n≤8*s.size
 · exact .inl ⟨_,jh s a n,h,by rw [if_pos h]⟩
 · exact .inr (by rw [if_neg h])
set_option maxRecDepth 100000 in
set_option maxHeartbeats 3200000 in
theorem VK (b sym:Nat) (v:Value) (L:List Nat) (w:World) (s:ByteArray) (a:Nat) (hR:RdAt w b 194 s a false) (hs:s.size≤1099511627776)
 (hL:Row w 3 1 v L.length (zf L)) (hb:v.ownBlock≠some b) (hlen:L.length≤100000) (h15 : ∀ x∈L,x≤15) (hsym:sym≤18) :
 Calls Tryz.prog 210 #[.agg #[.pointer (some ⟨b,0,none⟩)],.int .i64 (sym:Nat),v] w
  (Yi w b s ((xa s sym L a).map ZP)):=by
 have hblt:=hR.1.lt
 have hU0:Upd [] w (w.alloc (.cells #[.pointer (some ⟨b,0,none⟩)] 153)):=(Upd.refl [] w).alloc _
 have hP:=Blk.new w [.pointer (some ⟨b,0,none⟩)] 153
 have hR0:=hR.upd hU0 (by simp)
 have hU0b:Upd [b] w (w.alloc (.cells #[.pointer (some ⟨b,0,none⟩)] 153)):=hU0.mono (by simp)
 obtain ⟨va,vc,rfl⟩:=hL.form
 by_cases h16:sym=16
 · subst h16
   by_cases hL0:L=[]
   · subst hL0
     have hp:xa s 16 [] a = .error 2:=by simp [xa]
     rw [hp]
     clear hp
     go_enter Tryz.func210,Tryz.ntmps210
     go_wp2_with fail
     refine (yR _).mono ?_
     rintro e w2 ⟨rfl,rfl⟩
     go_wp2
     exact ⟨rfl,rfl,hU0b⟩
   · have hpos:0<L.length:=List.length_pos_iff.2 hL0
     have hpf:decide ((0:Int)<(L.length:Int))=true:=by simp; omega
     have hpz:(0:Int)<(L.length:Int):=by omega
     have hp:xa s 16 L a=(zp s a 2).map fun r=>((3+r.1,L.getLastD 0),r.2):=by simp [xa,hL0]
     rw [hp]
     clear hp hL0
     obtain ⟨g,vc',hve,hg1,hg2⟩:=hL.form' hpos
     cases hve
     obtain ⟨y,hy⟩ : ∃ y,L.getLastD 0=y:=⟨_,rfl⟩
     have hyl:L[L.length-1]? =some y:=by
      rw [← hy,List.getLastD_eq_getLast?,List.getLast?_eq_getElem?,List.getElem?_eq_getElem (by omega)]; rfl
     rw [hy]
     have d0:=Row.cell (hL.alloc (.cells #[.pointer (some ⟨b,0,none⟩)] 153)) (L.length-1) (zt _ _ _ hyl)
     have hgb:g≠b:=fun e=>hb (by rw [e]; rfl)
     have c0:=hP.cell 0 rfl
     obtain ⟨M,hM⟩ : ∃ M,L.length=M+1:=⟨L.length-1,by omega⟩
     rw [hM] at d0 hL hpf hpz hlen ⊢
     rw [Nat.add_sub_cancel] at d0
     clear hy hyl hM hb
     have e1:IntKind.i64.wrap (M:Int)=(M:Int):=IntWalk.i64_in _ (by omega)
     have hM0:(0:Int)≤(M:Int):=by omega
     rcases zA s a 2 with ⟨t,ht4,hta,ht⟩ | ht
     · have HT:=Lib.hid (yV (hR0.upd (Upd.drew (Upd.refl [] _)) (by simp)) hs (by omega) ht)
       rw [ht]
       go_enter Tryz.func210,Tryz.ntmps210
       go_wp2_with fail
       refine (yw _).mono ?_
       rintro e w2 ⟨rfl,rfl⟩
       have e2:IntKind.i64.wrap (3+(t:Int))=3+(t:Int):=IntWalk.i64_in _ (by omega)
       have hM1:(M:Int)<(M:Int)+1:=by omega
       go_wp2
       go_region_law ((go_simp; go_at_call 139; refine HT.out.mono ?_; rintro e w4 ⟨rfl,hR4,hU4⟩; have d4:=(hU4.at (b:=g) (by simp; omega) (by simpa using hgb) M).trans d0))
       all_goals go_wp2
       all_goals go_returns
       all_goals exact ⟨by first | (simp [Act.put]; done) | (simp [ZP]; done),hR4,hU0b.drew.then hU4⟩
     · have HT:=Lib.hid (xe (hR0.upd (Upd.drew (Upd.refl [] _)) (by simp)) hs (by omega) ht)
       rw [ht]
       go_enter Tryz.func210,Tryz.ntmps210
       go_wp2_with fail
       refine (yw _).mono ?_
       rintro e w2 ⟨rfl,rfl⟩
       have hM1:(M:Int)<(M:Int)+1:=by omega
       go_wp2
       refine wp_region_held_drew (S:=fun w'=>w'.cell? ⟨w.heap.size,0,none⟩=some (.pointer (some ⟨b,0,none⟩))∧w'.cell? ⟨g,M,none⟩=some (.int .i64 (y:Nat))) (by kernel_rfl) ⟨c0,d0⟩ (fun hHeld=>?_)
       refine wpAnyH_take (i:=0) (v:=?v0) rfl (by kernel_rfl) (by kernel_rfl) (by kernel_rfl) (fun _ _ _ h=>h) (Or.inl ⟨by rfl,?hy0⟩) (by assumption) ?r0
       case hy0=>(intro w hSw; (try dsimp only at hSw); go_simp; try with_reducible rfl)
       try simp only [Act.put,List.setIfInBounds_toArray,List.set_cons_zero,List.set_cons_succ]
       refine wpAnyH_take (i:=3) (v:=?v3) rfl (by kernel_rfl) (by kernel_rfl) (by kernel_rfl) (fun _ _ _ h=>h) (Or.inl ⟨by rfl,?hy3⟩) (by assumption) ?r3
       case hy3=>(intro w hSw; (try dsimp only at hSw); go_simp; try with_reducible rfl)
       try simp only [Act.put,List.setIfInBounds_toArray,List.set_cons_zero,List.set_cons_succ]
       refine wpAnyH_take (i:=4) (v:=?v4) rfl (by kernel_rfl) (by kernel_rfl) (by kernel_rfl) (fun _ _ _ h=>h) (Or.inl ⟨by rfl,?hy4⟩) (by assumption) ?r4
       case hy4=>(intro w hSw; (try dsimp only at hSw); go_simp; try with_reducible rfl)
       try simp only [Act.put,List.setIfInBounds_toArray,List.set_cons_zero,List.set_cons_succ]
       refine wpAnyH_take (i:=5) (v:=?v5) rfl (by kernel_rfl) (by kernel_rfl) (by kernel_rfl) (fun _ _ _ h=>h) (Or.inl ⟨by rfl,?hy5⟩) (by assumption) ?r5
       case hy5=>(intro w hSw; (try dsimp only at hSw); go_simp; try with_reducible rfl)
       try simp only [Act.put,List.setIfInBounds_toArray,List.set_cons_zero,List.set_cons_succ]
       refine wpAnyH_take (i:=6) (v:=?v6) rfl (by kernel_rfl) (by kernel_rfl) (by kernel_rfl) (fun _ _ _ h=>h) (Or.inl ⟨by rfl,?hy6⟩) (by assumption) ?r6
       case hy6=>(intro w hSw; (try dsimp only at hSw); go_simp; try with_reducible rfl)
       try simp only [Act.put,List.setIfInBounds_toArray,List.set_cons_zero,List.set_cons_succ]
       refine wpAnyH_take (i:=7) (v:=?v7) rfl (by kernel_rfl) (by kernel_rfl) (by kernel_rfl) (fun _ _ _ h=>h) (Or.inl ⟨by rfl,?hy7⟩) (by assumption) ?r7
       case hy7=>(intro w hSw; (try dsimp only at hSw); go_simp; try with_reducible rfl)
       try simp only [Act.put,List.setIfInBounds_toArray,List.set_cons_zero,List.set_cons_succ]
       refine wpAnyH_take (i:=8) (v:=?v8) rfl (by kernel_rfl) (by kernel_rfl) (by kernel_rfl) (fun _ _ _ h=>h) (Or.inl ⟨by rfl,?hy8⟩) (by assumption) ?r8
       case hy8=>(intro w hSw; (try dsimp only at hSw); go_simp; try with_reducible rfl)
       try simp only [Act.put,List.setIfInBounds_toArray,List.set_cons_zero,List.set_cons_succ]
       refine wpAnyH_ready (rs:=[1]) (by kernel_rfl) (by simp) ?_
       refine AllReadyH.cons rfl (fun K hK=>?_) AllReadyH.nil
       go_simp
       go_at_call 139
       refine HT.out.mono ?_
       rintro e w4 ⟨rfl,hU4⟩
       go_wp2
       exact ⟨rfl,rfl,hU0b.drew.then hU4⟩
 · have h16f:((sym:Int)==16)=false:=by simp; omega
   by_cases h17:sym=17
   · subst h17
     have hp:xa s 17 L a=(zp s a 3).map fun r=>((3+r.1,0),r.2):=by simp [xa]
     rw [hp]
     clear hp
     rcases zA s a 3 with ⟨t,ht4,hta,ht⟩ | ht
     · have HT:=Lib.hid (yV hR0 hs (by omega) ht)
       rw [ht]
       go_enter Tryz.func210,Tryz.ntmps210
       go_wp2_with fail
       refine HT.out.mono ?_
       rintro e w4 ⟨rfl,hR4,hU4⟩
       go_wp2
       go_returns
       exact ⟨by first | (simp [Act.put]; done) | (simp [ZP]; done),hR4,hU0b.then hU4⟩
     · have HT:=Lib.hid (xe hR0 hs (by omega) ht)
       rw [ht]
       go_enter Tryz.func210,Tryz.ntmps210
       go_wp2_with fail
       refine HT.out.mono ?_
       rintro e w4 ⟨rfl,hU4⟩
       go_wp2
       exact ⟨rfl,rfl,hU0b.then hU4⟩
   · have h17f:((sym:Int)==17)=false:=by simp; omega
     have hp:xa s sym L a=(zp s a 7).map fun r=>((11+r.1,0),r.2):=by unfold xa; rw [if_neg h16,if_neg h17]
     rw [hp]
     clear hp
     rcases zA s a 7 with ⟨t,ht4,hta,ht⟩ | ht
     · have HT:=Lib.hid (yV hR0 hs (by omega) ht)
       rw [ht]
       go_enter Tryz.func210,Tryz.ntmps210
       go_wp2_with fail
       refine HT.out.mono ?_
       rintro e w4 ⟨rfl,hR4,hU4⟩
       go_wp2
       go_returns
       exact ⟨by first | (simp [Act.put]; done) | (simp [ZP]; done),hR4,hU0b.then hU4⟩
     · have HT:=Lib.hid (xe hR0 hs (by omega) ht)
       rw [ht]
       go_enter Tryz.func210,Tryz.ntmps210
       go_wp2_with fail
       refine HT.out.mono ?_
       rintro e w4 ⟨rfl,hU4⟩
       go_wp2
       exact ⟨rfl,rfl,hU0b.then hU4⟩
end Go.Proofs.YtfkcdnaghndgfaaGreatDoor
