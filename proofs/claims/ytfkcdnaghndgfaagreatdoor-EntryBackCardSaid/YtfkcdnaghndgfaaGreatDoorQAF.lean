/- The walks of a symbol's reading: (*huff.Decoder).Next; and in plain mathematics. -/
import Derived.Test.YtfkcdnaghndgfaaGreatDoorQAE
import Derived.Test.YtfkcdnaghndgfaaGreatDoorQAC
import Derived.Test.YtfkcdnaghndgfaaGreatDoorQAD
import Derived.WalkLawsBesides
set_option linter.unusedVariables false
set_option linter.unusedSimpArgs false
set_option linter.unusedSectionVars false
namespace Go.Proofs.YtfkcdnaghndgfaaGreatDoor
open Go.RowKit
def qQ (n:List Nat) (s:ByteArray):Nat→Nat→Nat→Nat→Option Nat×Nat×Bool
 | 0,_,a,_=>(none,a,false)
 | f+1,k,a,c=>if a<8*s.size then
  match qk n k (2*c+zM s a 1) with
  | some x=>(some x,a+1,false)
  | none=>qQ n s f (k+1) (a+1) (2*c+zM s a 1)
   else (none,a,true)
def nxt (n:List Nat) (s:ByteArray) (a:Nat) (bad:Bool):Option Nat×Nat×Bool:=if bad then (none,a,true) else qQ n s 15 1 a 0
theorem Jd {n:List Nat} {s:ByteArray} {f k a c:Nat} (h : ¬ a<8*s.size):qQ n s (f+1) k a c=(none,a,true):=by simp [qQ,h]
theorem jn {n:List Nat} {s:ByteArray} {f k a c x:Nat} (h:a<8*s.size) (hx:qk n k (2*c+zM s a 1)=some x):qQ n s (f+1) k a c=(some x,a+1,false):=by simp [qQ,h,hx]
theorem jr {n:List Nat} {s:ByteArray} {f k a c:Nat} (h:a<8*s.size) (hx:qk n k (2*c+zM s a 1)=none):qQ n s (f+1) k a c=qQ n s f (k+1) (a+1) (2*c+zM s a 1):=by simp [qQ,h,hx]
theorem zh8 (n:List Nat) (s:ByteArray) (f k a c:Nat) (h:a≤8*s.size):a≤(qQ n s f k a c).2.1∧(qQ n s f k a c).2.1≤8*s.size∧(qQ n s f k a c).2.1≤a+f:=by
 induction f generalizing k a c with
 | zero=>exact ⟨Nat.le_refl _,h,Nat.le_refl _⟩
 | succ f ih =>
   by_cases h1:a<8*s.size
   · cases hx:qk n k (2*c+zM s a 1) with
     | some x=>rw [jn h1 hx]; exact ⟨by simp,by simp; omega,by simp⟩
     | none =>
       rw [jr h1 hx]
       have:=ih (k+1) (a+1) (2*c+zM s a 1) (by omega)
       omega
   · rw [Jd h1]; exact ⟨by simp,h,by simp⟩
theorem zcm (c r:Nat) (hc:c≤1073741824) (hr:r<2):bits BinOp.or IntKind.i64 ((2*c:Nat):Int) (r:Int)=((2*c+r:Nat):Int):=by
 rw [bits_join .i64 63 (by decide) (fun n h0 h1=>by rw [IntWalk.i64_in n (by omega)]) 1 _ _ (by omega) (by omega) (by omega) (by omega) (by omega) (by omega)]
 simp
def zbp (r:Option Nat×Nat×Bool):Value := .tuple #[.int .i64 ((r.1.getD 0:Nat):Int),.bool r.1.isSome]
theorem zfg (b:Value) (w:World) :
 Calls Tryz.prog 207 #[.pointer none,b] w fun e w'=>e = .returned (.tuple #[.int .i64 0,.bool false])∧w=w':=by
 go_enter Tryz.func207,Tryz.ntmps207
 go_wp2
 go_returns
 exact ⟨rfl,rfl⟩
set_option maxRecDepth 100000 in
set_option maxHeartbeats 3200000 in
theorem zgt (d b:Nat) (v:Value) (n:List Nat) (w:World) (s:ByteArray) (a:Nat) (bad:Bool) (hD:DcAt w d v n) (hR:RdAt w b 194 s a bad) (hs:s.size≤1099511627776)
 (hne:d≠b) (hvb:v.ownBlock≠some b) (hps:qy n 16≤32768) (hn:n.length≤300) :
 Calls Tryz.prog 207 #[.pointer (some ⟨d,0,none⟩),.pointer (some ⟨b,0,none⟩)] w
  (KG w b 194 s (zbp (nxt n s a bad)) (nxt n s a bad).2.1 (nxt n s a bad).2.2):=by
 cases bad with
 | true =>
   have HB:=Lib.hid (JN b 1 w s a true hR hs)
   have e1:nxt n s a true=(none,a,true):=rfl
   rw [e1]
   have e2:jx s a true 1=true:=rfl
   have e3:rdTo s a true 1=a:=rfl
   have e4:kg s a true 1=0:=rfl
   rw [e2,e3,e4] at HB
   clear e1 e2 e3 e4
   go_enter Tryz.func207,Tryz.ntmps207
   go_wp2
   refine wp_loop_rounds 1 ?_
   rw [rounds_succ]
   go_wp2_with fail
   refine HB.out.mono ?_
   rintro e w1 ⟨rfl,hR1,hU1⟩
   go_wp2_with fail
   refine (yi b w1 _ s a true hR1).mono ?_
   rintro e w2 ⟨rfl,rfl⟩
   go_wp2
   go_returns
   exact ⟨rfl,hR1,hU1⟩
 | false =>
   have e1:nxt n s a false=qQ n s 15 1 a 0:=rfl
   rw [e1]
   have hpb:=Lib.hid (fun k hk=>ZS n hps k hk)
   have hle:=hR.2
   have hRel0:zcR w b 194 s (a+0) w:=⟨hR,.refl _ _⟩
   have HD:=Lib.hid (fun w' (hU:Upd [b] w w')=>hD.upd hU (by simpa using hne) (fun k hk hm=>hvb (by simp at hm; rw [hk,hm])))
   clear hps e1 hR hD hne hvb
   go_enter Tryz.func207,Tryz.ntmps207
   go_wp2
   go_loopg [6,7,8,9] 15 (fun g s6 s7 s8 s9 wr => ∃ j c,j≤15∧g=15-j∧s9 = .int .i64 ((j+1:Nat):Int)∧s6 = .int .i64 ((2*c:Nat):Int)∧s7 = .int .i64 (fst n (j+1):Nat)∧s8 = .int .i64 ((zR n (j+1)).length:Nat)∧c<2^j∧fst n (j+1)≤2*c∧a+j≤8*s.size∧qQ n s 15 1 a 0=qQ n s (15-j) (j+1) (a+j) c∧zcR w b 194 s (a+j) wr)
   case atStart=>exact ⟨0,0,by omega,rfl,rfl,rfl,rfl,by rw [zad]; rfl,by simp,by simp [fst,cnt],by omega,rfl,hRel0⟩
   case round =>
    obtain ⟨j,c,hj,rfl,rfl,rfl,rfl,rfl,hc2,hfc,haj,hnx,hRr,hU⟩:=hrel
    clear hRel0
    by_cases hc:j<15
    · have hcz:(j:Int)+1≤15:=by omega
      have hp15:2^j≤2^15:=Nat.pow_le_pow_right (by omega) (by omega)
      have HB:=Lib.hid (JN b 1 wr s (a+j) false hRr hs)
      by_cases hend:a+j<8*s.size
      · have e2:jx s (a+j) false 1=false:=by simp [jx]; omega
        have e3:rdTo s (a+j) false 1=a+j+1:=by unfold rdTo; rw [e2]; rfl
        have e4:kg s (a+j) false 1=zM s (a+j) 1:=by unfold kg; rw [e2]; rfl
        rw [e2,e3,e4] at HB
        have hbl:=Qc s (a+j) 1
        have hfk:=hpb.out (j+1) (by omega)
        have hp16:2^(j+1)=2*2^j:=by rw [Nat.pow_succ,Nat.mul_comm]
        have hor:=zcm c (zM s (a+j) 1) (by omega) (by omega)
        have hsy1:=kE n (j+1)
        have hsy2:(j+1)*n.length≤15*300:=Nat.mul_le_mul (by omega) (by omega)
        have hsn:=Lib.hid (JY n (j+1) (by omega))
        have hfn:=Lib.hid (show fst n (j+1+1)=2*(fst n (j+1)+cnt n (j+1)) by rfl)
        by_cases hlt:2*c+zM s (a+j) 1<fst n (j+1)+cnt n (j+1)
        · have hsome:qk n (j+1) (2*c+zM s (a+j) 1)=some ((idx n (j+1) n.length).getD (2*c+zM s (a+j) 1-fst n (j+1)) 0):=by
           unfold qk; rw [if_pos ⟨by omega,hlt⟩]
          rw [show 15-j=(14-j)+1 by omega,jn hend hsome] at hnx
          have HN:=Lib.hid hnx
          have hget:=zgd n (j+1) (2*c+zM s (a+j) 1-fst n (j+1)) (by omega) (by omega) (by omega)
          generalize (idx n (j+1) n.length).getD (2*c+zM s (a+j) 1-fst n (j+1)) 0=x at *
          obtain ⟨q,hq⟩ : ∃ q,2*c+zM s (a+j) 1=fst n (j+1)+q:=⟨2*c+zM s (a+j) 1-fst n (j+1),by omega⟩
          rw [hq] at hor
          rw [show 2*c+zM s (a+j) 1-fst n (j+1)=q by omega] at hget
          have hq2:q<cnt n (j+1):=by omega
          have hpos:0<(zR n 16).length:=by have:=(List.getElem?_eq_some_iff.1 hget).1; omega
          have hc2b:2*c≤65536:=by omega
          have hqi:=(List.getElem?_eq_some_iff.1 hget).1
          have hF16:fst n (j+1)≤65536:=by omega
          have hL16:(zR n (j+1)).length≤4500:=by omega
          have hq16:q≤65536:=by omega
          clear hnx hsome e2 e3 e4 hlt hq hsy2 hp16 hc2 hfc
          generalize 2*c=c2 at *
          rw [Int.natCast_add] at hor
          generalize zM s (a+j) 1=r at *
          go_wp2_with fail
          refine HB.out.mono ?_
          rintro e w1 ⟨rfl,hR1,hU1⟩
          go_wp2_with fail
          refine (yi b w1 _ s _ false hR1).mono ?_
          rintro e w2 ⟨rfl,rfl⟩
          have hD:=HD.out _ (hU.then hU1)
          obtain ⟨g,vc,rfl,hg1,hg2⟩:=hD.row.form' hpos
          have d1:=hD.blk.cell (j+1) (v := .int .i64 (cnt n (j+1):Nat)) (by rw [List.getElem?_append_left (by rw [zn,xk]; omega),zL _ _ _ (XT n (j+1) (by omega))])
          have d2:=hD.blk.cell 16 (v := .slice (some ⟨g,0,none⟩) (zR n 16).length vc) (by rw [List.getElem?_append_right (by rw [zn,xk]; omega),zn,xk]; rfl)
          have d3:=Row.cell hD.row _ (zL _ _ _ hget)
          generalize (zR n (j+1)).length=L at *
          generalize (zR n 16).length=L16 at *
          generalize fst n (j+1)=F at *
          generalize cnt n (j+1)=C at *
          have d4:w1.cell? ⟨g,L+(F+q)-F,none⟩=some (.int .i64 (x:Nat)):=by rw [show L+(F+q)-F=L+q by omega]; exact d3
          clear d3
          go_wp2
          go_returns
          rw [HN.out]
          exact ⟨rfl,hR1,hU.then hU1⟩
        · have hnone:qk n (j+1) (2*c+zM s (a+j) 1)=none:=by
           unfold qk; rw [if_neg (by omega)]
          rw [show 15-j=(14-j)+1 by omega,jr hend hnone] at hnx
          have hge:fst n (j+1)+cnt n (j+1)≤2*c+zM s (a+j) 1:=by omega
          obtain ⟨c',hc'⟩ : ∃ c',c'=2*c+zM s (a+j) 1:=⟨_,rfl⟩
          rw [← hc'] at hnx hge hor
          have hc2':c'<2^(j+1):=by omega
          have hc16:c'≤65536:=by omega
          have hlt':decide ((c':Int)-(fst n (j+1):Int)<(cnt n (j+1):Int))=false:=by simp; omega
          have HN:=Lib.hid hnx
          have HC2:=Lib.hid hc2'
          have hF16:fst n (j+1)+cnt n (j+1)≤65536:=by omega
          have hL16:(zR n (j+1)).length≤4500:=by omega
          have hc2b:2*c≤65536:=by omega
          clear hnx hnone e2 e3 e4 hlt hsy2 hp16 hc2 hfc hc' hc2'
          generalize 2*c=c2 at *
          generalize zM s (a+j) 1=r at *
          go_wp2_with fail
          refine HB.out.mono ?_
          rintro e w1 ⟨rfl,hR1,hU1⟩
          go_wp2_with fail
          refine (yi b w1 _ s _ false hR1).mono ?_
          rintro e w2 ⟨rfl,rfl⟩
          have hD:=HD.out _ (hU.then hU1)
          have d1:=hD.blk.cell (j+1) (v := .int .i64 (cnt n (j+1):Nat)) (by rw [List.getElem?_append_left (by rw [zn,xk]; omega),zL _ _ _ (XT n (j+1) (by omega))])
          generalize (zR n (j+1)).length=L at *
          generalize fst n (j+1)=F at *
          generalize cnt n (j+1)=C at *
          go_wp2
          go_roundg (15-(j+1))
          case measure=>omega
          case rel =>
           refine ⟨j+1,c',by omega,rfl,by go_num,by go_num,by rw [hfn.out]; go_num,by rw [hsn.out]; go_num,HC2.out,by rw [hfn.out]; omega,by omega,?_,?_⟩
           · rw [HN.out,show 15-(j+1)=14-j by omega,Nat.add_assoc a j 1]
           · rw [← Nat.add_assoc]; exact ⟨hR1,hU.then hU1⟩
      · have e2:jx s (a+j) false 1=true:=by simp [jx]; omega
        have e3:rdTo s (a+j) false 1=a+j:=by unfold rdTo; rw [e2]; rfl
        have e4:kg s (a+j) false 1=0:=by unfold kg; rw [e2]; rfl
        rw [e2,e3,e4] at HB
        rw [show 15-j=(14-j)+1 by omega,Jd hend] at hnx
        rw [hnx]
        clear e2 e3 e4 hnx
        have hcb:2*c≤65536:=by omega
        generalize 2*c=c2 at *
        generalize fst n (j+1)=F at *
        generalize (zR n (j+1)).length=L at *
        go_wp2_with fail
        refine HB.out.mono ?_
        rintro e w1 ⟨rfl,hR1,hU1⟩
        go_wp2_with fail
        refine (yi b w1 _ s _ true hR1).mono ?_
        rintro e w2 ⟨rfl,rfl⟩
        go_wp2
        go_returns
        exact ⟨rfl,hR1,hU.then hU1⟩
    · have hj15:j=15:=by omega
      have hcz : ¬ (j:Int)+1≤15:=by omega
      subst hj15
      have HN:=Lib.hid (show qQ n s 15 1 a 0=(none,a+15,false) from hnx)
      clear hnx
      generalize fst n (15+1)=F at *
      generalize (zR n (15+1)).length=L at *
      generalize 2*c=c2 at *
      go_wp2
      go_returns
      rw [HN.out]
      exact ⟨rfl,hRr,hU⟩
end Go.Proofs.YtfkcdnaghndgfaaGreatDoor
namespace Go.Proofs.YtfkcdnaghndgfaaGreatDoor
open Go.RowKit
theorem zbs (n:List Nat) (k i m:Nat) : ∃ r,idx n k (i+m)=idx n k i++r:=by
 induction m with
 | zero=>exact ⟨[],by simp⟩
 | succ m ih =>
   obtain ⟨r,hr⟩:=ih
   exact ⟨r++if n.getD (i+m) 0=k then [i+m] else [],by rw [← Nat.add_assoc,Qx,hr,List.append_assoc]⟩
theorem zbh (n:List Nat) (i k:Nat) (h1:1≤k) (hi:i<n.length) (hk:n.getD i 0=k):qk n k (yg n i)=some i:=by
 have hc:yg n i=fst n k+(n.take i).count k:=by unfold yg; rw [if_neg (by omega),hk]
 have hlt:=ZK n i k hi hk
 have hcn:cnt n k=n.count k:=by unfold cnt; rw [if_neg (by omega)]
 unfold qk
 rw [hc,if_pos ⟨by omega,by omega⟩,Nat.add_sub_cancel_left]
 obtain ⟨r,hr⟩:=zbs n k (i+1) (n.length-(i+1))
 rw [show i+1+(n.length-(i+1))=n.length by omega,Qx,if_pos hk] at hr
 have hl:=Ye n k i (by omega)
 rw [hr,← hl,List.append_assoc,List.getD,List.getElem?_append_right (by omega)]
 simp
theorem symAt_none' (n:List Nat) (k c:Nat) (h : ¬ (fst n k≤c∧c<fst n k+cnt n k)):qk n k c=none:=by unfold qk; rw [if_neg h]
end Go.Proofs.YtfkcdnaghndgfaaGreatDoor
namespace Go.Proofs.YtfkcdnaghndgfaaGreatDoor
open Go.RowKit
def zG (s:ByteArray) (a n:Nat):Except Nat (Nat×Nat):=if a+n≤8*s.size then .ok (zM s a n,a+n) else .error 3
def xc (l:List Int) (s:ByteArray) (a:Nat):Except Nat (Nat×Nat) :=
 if zp l=3∨zp l=0 then .error 2 else
  match nxt (zk l) s a false with
  | (some x,a',_) => .ok (x,a')
  | (none,_,true) => .error 3
  | (none,_,false) => .error 2
theorem ZX (n:List Nat) (s:ByteArray) (f k a c:Nat) {x:Nat} (h:(qQ n s f k a c).1=some x):(qQ n s f k a c).2.2=false:=by
 induction f generalizing k a c with
 | zero=>rfl
 | succ f ih =>
   by_cases h1:a<8*s.size
   · cases hx:qk n k (2*c+zM s a 1) with
     | some y=>rw [jn h1 hx]
     | none=>rw [jr h1 hx] at h ⊢; exact ih _ _ _ h
   · rw [Jd h1] at h; cases h
theorem zfa (n:List Nat) (s:ByteArray) (a:Nat) {x:Nat} (h:(nxt n s a false).1=some x):(nxt n s a false).2.2=false:=ZX n s 15 1 a 0 h
def Xh (w:World) (b:Nat) (s:ByteArray) (r:Except Nat (Value×Nat)) (e:Ending) (w':World):Prop :=
 match r with
 | .ok (v,a')=>e = .returned v∧RdAt w' b 194 s a' false∧Upd [b] w w'
 | .error c=>e = .panicked [{ v := .iface 27 (.int .i64 (c:Nat)),recovered:=false }]∧Upd [b] w w'
set_option maxHeartbeats 1600000 in
theorem Wo (b n:Nat) (w:World) (s:ByteArray) (a:Nat) (hR:RdAt w b 194 s a false) (hs:s.size≤1099511627776) (hn:n≤32) :
 Calls Tryz.prog 139 #[.agg #[.pointer (some ⟨b,0,none⟩)],.int .i64 (n:Nat)] w
  (Xh w b s ((zG s a n).map fun r=>(.int .i64 (r.1:Nat),r.2))):=by
 have hle:=hR.2
 have HB:=Lib.hid (fun w' (hU:Upd [] w w')=>JN b (n:Nat) w' s a false (hR.upd hU (by simp)) hs)
 have hblt:=hR.1.lt
 by_cases hc:a+n≤8*s.size
 · have e2:jx s a false (n:Nat)=false:=by simp [jx]; omega
   have e3:rdTo s a false (n:Nat)=a+n:=by unfold rdTo; rw [e2]; simp
   have e4:kg s a false (n:Nat)=zM s a n:=by unfold kg; rw [e2]; simp
   rw [e2,e3,e4] at HB
   have ht:zG s a n = .ok (zM s a n,a+n):=by unfold zG; rw [if_pos hc]
   rw [ht]
   have hbl:=Qc s a n
   have hp32:2^n≤2^32:=Nat.pow_le_pow_right (by omega) hn
   have hv:zM s a n<4294967296:=by omega
   clear e2 e3 e4 ht hbl hp32
   generalize zM s a n=v at *
   go_enter Tryz.func139,Tryz.ntmps139
   go_wp2_with fail
   refine (HB.out _ ((Upd.refl [] w).alloc _)).mono ?_
   rintro e w1 ⟨rfl,hR1,hU1⟩
   have c1:w1.cell? ⟨w.heap.size,0,none⟩=some (.pointer (some ⟨b,0,none⟩)):=((Blk.new w [.pointer (some ⟨b,0,none⟩)] 153).upd hU1 (by simp; omega)).cell 0 rfl
   go_wp2_with fail
   refine (yi b w1 _ s _ false hR1).mono ?_
   rintro e w2 ⟨rfl,rfl⟩
   go_wp2
   go_returns
   exact ⟨rfl,hR1,(((Upd.refl [b] w).alloc _).then hU1)⟩
 · have e2:jx s a false (n:Nat)=true:=by simp [jx]; omega
   have e3:rdTo s a false (n:Nat)=a:=by unfold rdTo; rw [e2]; simp
   have e4:kg s a false (n:Nat)=0:=by unfold kg; rw [e2]; simp
   rw [e2,e3,e4] at HB
   have ht:zG s a n = .error 3:=by unfold zG; rw [if_neg hc]
   rw [ht]
   clear e2 e3 e4 ht
   go_enter Tryz.func139,Tryz.ntmps139
   go_wp2_with fail
   refine (HB.out _ ((Upd.refl [] w).alloc _)).mono ?_
   rintro e w1 ⟨rfl,hR1,hU1⟩
   have c1:w1.cell? ⟨w.heap.size,0,none⟩=some (.pointer (some ⟨b,0,none⟩)):=((Blk.new w [.pointer (some ⟨b,0,none⟩)] 153).upd hU1 (by simp; omega)).cell 0 rfl
   go_wp2_with fail
   refine (yi b w1 _ s _ true hR1).mono ?_
   rintro e w2 ⟨rfl,rfl⟩
   go_wp2
   exact ⟨rfl,rfl,(((Upd.refl [b] w).alloc _).then hU1)⟩
theorem yz (w:World):Calls Tryz.prog 143 #[.bool true] w fun e w'=>e = .returned (.tuple #[])∧w=w':=by
 go_enter Tryz.func143,Tryz.ntmps143
 go_wp2
 go_returns
 exact ⟨rfl,rfl⟩
theorem yM (w:World):Calls Tryz.prog 143 #[.bool false] w fun e w'=>e = .panicked [{ v := .iface 27 (.int .i64 2),recovered:=false }]∧w=w':=by
 go_enter Tryz.func143,Tryz.ntmps143
 go_wp2
 exact ⟨rfl,rfl,rfl⟩
def DecFor (w:World) (dv:Value) (l:List Int) (b:Nat):Prop :=
 (dv = .pointer none∧(zp l=3∨zp l=0))∨(zp l≠3∧zp l≠0 ∧ ∃ d v,dv = .pointer (some ⟨d,0,none⟩)∧DcAt w d v (zk l)∧d≠b∧v.ownBlock≠some b)
theorem DecFor.upd {w w':World} {dv:Value} {l:List Int} {b:Nat} (h:DecFor w dv l b) (hU:Upd [b] w w'):DecFor w' dv l b:=by
 rcases h with h | ⟨h1,h2,d,v,e,hD,h3,h4⟩
 · exact .inl h
 · exact .inr ⟨h1,h2,d,v,e,hD.upd hU (by simpa using h3) (fun k hk hm=>by simp at hm; exact h4 (by rw [hk,hm])),h3,h4⟩
set_option maxHeartbeats 1600000 in
theorem VF (b:Nat) (dv:Value) (l:List Int) (w:World) (s:ByteArray) (a:Nat) (hR:RdAt w b 194 s a false) (hs:s.size≤1099511627776) (hD:DecFor w dv l b) :
 Calls Tryz.prog 178 #[.agg #[.pointer (some ⟨b,0,none⟩)],dv] w
  (Xh w b s ((xc l s a).map fun r=>(.int .i64 (r.1:Nat),r.2))):=by
 have hblt:=hR.1.lt
 have hU0:Upd [] w (w.alloc (.cells #[.pointer (some ⟨b,0,none⟩)] 153)):=(Upd.refl [] w).alloc _
 have hP:=Blk.new w [.pointer (some ⟨b,0,none⟩)] 153
 have hR0:=hR.upd hU0 (by simp)
 rcases hD with ⟨rfl,hk⟩ | ⟨hk3,hk0,d,v,rfl,hD,hdb,hvb⟩
 · have ht:xc l s a = .error 2:=by unfold xc; rw [if_pos hk]
   rw [ht]
   clear ht
   go_enter Tryz.func178,Tryz.ntmps178
   go_wp2_with fail
   refine (zfg _ _).mono ?_
   rintro e w1 ⟨rfl,rfl⟩
   go_wp2_with fail
   refine (yi b _ _ s _ false hR0).mono ?_
   rintro e w2 ⟨rfl,rfl⟩
   go_wp2_with fail
   refine (yM _).mono ?_
   rintro e w2 ⟨rfl,rfl⟩
   go_wp2
   exact ⟨rfl,rfl,hU0.mono (by simp)⟩
 · obtain ⟨hok,hps⟩:=xC hk3
   have h300:(zk l).length≤300:=by rw [xd]; exact (zN hok).1
   have hNx:=zgt d b v (zk l) _ s a false (hD.upd hU0 (by simp) (by simp)) hR0 hs hdb hvb hps h300
   have ht:xc l s a=match nxt (zk l) s a false with
    | (some x,a',_) => .ok (x,a')
    | (none,_,true) => .error 3
    | (none,_,false) => .error 2:=by unfold xc; rw [if_neg (by omega)]
   rw [ht]
   clear ht
   have hsb:=fun x=>@zfa (zk l) s a x
   generalize nxt (zk l) s a false=rr at *
   obtain ⟨o,a',bad'⟩:=rr
   cases o with
   | some x =>
     have e1:zbp (some x,a',bad') = .tuple #[.int .i64 (x:Nat),.bool true]:=rfl
     rw [e1] at hNx
     have hbf:bad'=false:=hsb x rfl
     subst hbf
     have HN:=Lib.hid hNx
     clear hNx e1 hsb
     go_enter Tryz.func178,Tryz.ntmps178
     go_wp2_with fail
     refine HN.out.mono ?_
     rintro e w1 ⟨rfl,hR1,hU1⟩
     have c1:=(hP.upd hU1 (by simp; omega)).cell 0 rfl
     go_wp2_with fail
     refine (yi b _ _ s _ false hR1).mono ?_
     rintro e w2 ⟨rfl,rfl⟩
     go_wp2_with fail
     refine (yz _).mono ?_
     rintro e w2 ⟨rfl,rfl⟩
     go_wp2
     go_returns
     exact ⟨rfl,hR1,(hU0.mono (by simp)).then hU1⟩
   | none =>
     have e1:zbp (none,a',bad') = .tuple #[.int .i64 0,.bool false]:=rfl
     rw [e1] at hNx
     have HN:=Lib.hid hNx
     clear hNx e1
     cases bad' with
     | true =>
       go_enter Tryz.func178,Tryz.ntmps178
       go_wp2_with fail
       refine HN.out.mono ?_
       rintro e w1 ⟨rfl,hR1,hU1⟩
       have c1:=(hP.upd hU1 (by simp; omega)).cell 0 rfl
       go_wp2_with fail
       refine (yi b _ _ s _ true hR1).mono ?_
       rintro e w2 ⟨rfl,rfl⟩
       go_wp2
       exact ⟨rfl,rfl,(hU0.mono (by simp)).then hU1⟩
     | false =>
       go_enter Tryz.func178,Tryz.ntmps178
       go_wp2_with fail
       refine HN.out.mono ?_
       rintro e w1 ⟨rfl,hR1,hU1⟩
       have c1:=(hP.upd hU1 (by simp; omega)).cell 0 rfl
       go_wp2_with fail
       refine (yi b _ _ s _ false hR1).mono ?_
       rintro e w2 ⟨rfl,rfl⟩
       go_wp2_with fail
       refine (yM _).mono ?_
       rintro e w2 ⟨rfl,rfl⟩
       go_wp2
       exact ⟨rfl,rfl,(hU0.mono (by simp)).then hU1⟩
theorem yO {b n:Nat} {w:World} {s:ByteArray} {a v a':Nat} (hR:RdAt w b 194 s a false) (hs:s.size≤1099511627776) (hn:n≤32) (h:zG s a n = .ok (v,a')) :
 Calls Tryz.prog 139 #[.agg #[.pointer (some ⟨b,0,none⟩)],.int .i64 (n:Nat)] w fun e w'=>e = .returned (.int .i64 (v:Nat))∧RdAt w' b 194 s a' false∧Upd [b] w w':=by
 have hT:=Wo b n w s a hR hs hn
 rw [h] at hT; exact hT
theorem yW {b n:Nat} {w:World} {s:ByteArray} {a c:Nat} (hR:RdAt w b 194 s a false) (hs:s.size≤1099511627776) (hn:n≤32) (h:zG s a n = .error c) :
 Calls Tryz.prog 139 #[.agg #[.pointer (some ⟨b,0,none⟩)],.int .i64 (n:Nat)] w fun e w'=>e = .panicked [{ v := .iface 27 (.int .i64 (c:Nat)),recovered:=false }]∧Upd [b] w w':=by
 have hT:=Wo b n w s a hR hs hn
 rw [h] at hT; exact hT
theorem XC {b:Nat} {dv:Value} {l:List Int} {w:World} {s:ByteArray} {a v a':Nat} (hR:RdAt w b 194 s a false) (hs:s.size≤1099511627776) (hD:DecFor w dv l b) (h:xc l s a = .ok (v,a')) :
 Calls Tryz.prog 178 #[.agg #[.pointer (some ⟨b,0,none⟩)],dv] w fun e w'=>e = .returned (.int .i64 (v:Nat))∧RdAt w' b 194 s a' false∧Upd [b] w w':=by
 have hT:=VF b dv l w s a hR hs hD
 rw [h] at hT; exact hT
theorem Zc {b:Nat} {dv:Value} {l:List Int} {w:World} {s:ByteArray} {a c:Nat} (hR:RdAt w b 194 s a false) (hs:s.size≤1099511627776) (hD:DecFor w dv l b) (h:xc l s a = .error c) :
 Calls Tryz.prog 178 #[.agg #[.pointer (some ⟨b,0,none⟩)],dv] w fun e w'=>e = .panicked [{ v := .iface 27 (.int .i64 (c:Nat)),recovered:=false }]∧Upd [b] w w':=by
 have hT:=VF b dv l w s a hR hs hD
 rw [h] at hT; exact hT
end Go.Proofs.YtfkcdnaghndgfaaGreatDoor
namespace Go.Proofs.YtfkcdnaghndgfaaGreatDoor
open Go.RowKit
def xz (s:ByteArray) (sym:Nat) (L:List Nat) (a:Nat):Except Nat ((Nat×Nat)×Nat) :=
 if sym=16 then (if L=[] then .error 2 else (zG s a 2).map fun r=>((3+r.1,L.getLastD 0),r.2))
 else if sym=17 then (zG s a 3).map fun r=>((3+r.1,0),r.2)
 else (zG s a 7).map fun r=>((11+r.1,0),r.2)
def ZR (r:(Nat×Nat)×Nat):Value×Nat:=(.tuple #[.int .i64 (r.1.1:Nat),.int .i64 (r.1.2:Nat)],r.2)
theorem zC (s:ByteArray) (a n:Nat):(∃ v,v<2^n∧a+n≤8*s.size∧zG s a n = .ok (v,a+n))∨zG s a n = .error 3:=by
 unfold zG
 by_cases h:a+n≤8*s.size
 · exact .inl ⟨_,Qc s a n,h,by rw [if_pos h]⟩
 · exact .inr (by rw [if_neg h])
set_option maxRecDepth 100000 in
set_option maxHeartbeats 3200000 in
theorem VD (b sym:Nat) (v:Value) (L:List Nat) (w:World) (s:ByteArray) (a:Nat) (hR:RdAt w b 194 s a false) (hs:s.size≤1099511627776)
 (hL:Row w 3 1 v L.length (zg L)) (hb:v.ownBlock≠some b) (hlen:L.length≤100000) (h15 : ∀ x∈L,x≤15) (hsym:sym≤18) :
 Calls Tryz.prog 210 #[.agg #[.pointer (some ⟨b,0,none⟩)],.int .i64 (sym:Nat),v] w
  (Xh w b s ((xz s sym L a).map ZR)):=by
 have hblt:=hR.1.lt
 have hU0:Upd [] w (w.alloc (.cells #[.pointer (some ⟨b,0,none⟩)] 153)):=(Upd.refl [] w).alloc _
 have hP:=Blk.new w [.pointer (some ⟨b,0,none⟩)] 153
 have hR0:=hR.upd hU0 (by simp)
 have hU0b:Upd [b] w (w.alloc (.cells #[.pointer (some ⟨b,0,none⟩)] 153)):=hU0.mono (by simp)
 obtain ⟨va,vc,rfl⟩:=hL.form
 by_cases h16:sym=16
 · subst h16
   by_cases hL0:L=[]
   · subst hL0
     have hp:xz s 16 [] a = .error 2:=by simp [xz]
     rw [hp]
     clear hp
     go_enter Tryz.func210,Tryz.ntmps210
     go_wp2_with fail
     refine (yM _).mono ?_
     rintro e w2 ⟨rfl,rfl⟩
     go_wp2
     exact ⟨rfl,rfl,hU0b⟩
   · have hpos:0<L.length:=List.length_pos_iff.2 hL0
     have hpf:decide ((0:Int)<(L.length:Int))=true:=by simp; omega
     have hpz:(0:Int)<(L.length:Int):=by omega
     have hp:xz s 16 L a=(zG s a 2).map fun r=>((3+r.1,L.getLastD 0),r.2):=by simp [xz,hL0]
     rw [hp]
     clear hp hL0
     obtain ⟨g,vc',hve,hg1,hg2⟩:=hL.form' hpos
     cases hve
     obtain ⟨y,hy⟩ : ∃ y,L.getLastD 0=y:=⟨_,rfl⟩
     have hyl:L[L.length-1]? =some y:=by
      rw [← hy,List.getLastD_eq_getLast?,List.getLast?_eq_getElem?,List.getElem?_eq_getElem (by omega)]; rfl
     rw [hy]
     have d0:=Row.cell (hL.alloc (.cells #[.pointer (some ⟨b,0,none⟩)] 153)) (L.length-1) (zL _ _ _ hyl)
     have hgb:g≠b:=fun e=>hb (by rw [e]; rfl)
     have c0:=hP.cell 0 rfl
     obtain ⟨M,hM⟩ : ∃ M,L.length=M+1:=⟨L.length-1,by omega⟩
     rw [hM] at d0 hL hpf hpz hlen ⊢
     rw [Nat.add_sub_cancel] at d0
     clear hy hyl hM hb
     have e1:IntKind.i64.wrap (M:Int)=(M:Int):=IntWalk.i64_in _ (by omega)
     have hM0:(0:Int)≤(M:Int):=by omega
     rcases zC s a 2 with ⟨t,ht4,hta,ht⟩ | ht
     · have HT:=Lib.hid (yO (hR0.upd (Upd.drew (Upd.refl [] _)) (by simp)) hs (by omega) ht)
       rw [ht]
       go_enter Tryz.func210,Tryz.ntmps210
       go_wp2_with fail
       refine (yz _).mono ?_
       rintro e w2 ⟨rfl,rfl⟩
       have e2:IntKind.i64.wrap (3+(t:Int))=3+(t:Int):=IntWalk.i64_in _ (by omega)
       have hM1:(M:Int)<(M:Int)+1:=by omega
       go_wp2
       go_region_law ((go_simp; go_at_call 139; refine HT.out.mono ?_; rintro e w4 ⟨rfl,hR4,hU4⟩; have d4:=(hU4.at (b:=g) (by simp; omega) (by simpa using hgb) M).trans d0))
       all_goals go_wp2
       all_goals go_returns
       all_goals exact ⟨by first | (simp [Act.put]; done) | (simp [ZR]; done),hR4,hU0b.drew.then hU4⟩
     · have HT:=Lib.hid (yW (hR0.upd (Upd.drew (Upd.refl [] _)) (by simp)) hs (by omega) ht)
       rw [ht]
       go_enter Tryz.func210,Tryz.ntmps210
       go_wp2_with fail
       refine (yz _).mono ?_
       rintro e w2 ⟨rfl,rfl⟩
       have hM1:(M:Int)<(M:Int)+1:=by omega
       go_wp2
       refine wp_region_held_drew (S:=fun w'=>w'.cell? ⟨w.heap.size,0,none⟩=some (.pointer (some ⟨b,0,none⟩))∧w'.cell? ⟨g,M,none⟩=some (.int .i64 (y:Nat))) (by kernel_rfl) ⟨c0,d0⟩ (fun hHeld=>?_)
       refine wpAnyH_take (i:=0) (v:=?v0) rfl (by kernel_rfl) (by kernel_rfl) (by kernel_rfl) (fun _ _ _ h=>h) (Or.inl ⟨by rfl,?hy0⟩) (by assumption) ?r0
       case hy0=>(intro w hSw; (try dsimp only at hSw); go_simp; try with_reducible rfl)
       try simp only [Act.put,List.setIfInBounds_toArray,List.set_cons_zero,List.set_cons_succ]
       refine wpAnyH_take (i:=3) (v:=?v3) rfl (by kernel_rfl) (by kernel_rfl) (by kernel_rfl) (fun _ _ _ h=>h) (Or.inl ⟨by rfl,?hy3⟩) (by assumption) ?r3
       case hy3=>(intro w hSw; (try dsimp only at hSw); go_simp; try with_reducible rfl)
       try simp only [Act.put,List.setIfInBounds_toArray,List.set_cons_zero,List.set_cons_succ]
       refine wpAnyH_take (i:=4) (v:=?v4) rfl (by kernel_rfl) (by kernel_rfl) (by kernel_rfl) (fun _ _ _ h=>h) (Or.inl ⟨by rfl,?hy4⟩) (by assumption) ?r4
       case hy4=>(intro w hSw; (try dsimp only at hSw); go_simp; try with_reducible rfl)
       try simp only [Act.put,List.setIfInBounds_toArray,List.set_cons_zero,List.set_cons_succ]
       refine wpAnyH_take (i:=5) (v:=?v5) rfl (by kernel_rfl) (by kernel_rfl) (by kernel_rfl) (fun _ _ _ h=>h) (Or.inl ⟨by rfl,?hy5⟩) (by assumption) ?r5
       case hy5=>(intro w hSw; (try dsimp only at hSw); go_simp; try with_reducible rfl)
       try simp only [Act.put,List.setIfInBounds_toArray,List.set_cons_zero,List.set_cons_succ]
       refine wpAnyH_take (i:=6) (v:=?v6) rfl (by kernel_rfl) (by kernel_rfl) (by kernel_rfl) (fun _ _ _ h=>h) (Or.inl ⟨by rfl,?hy6⟩) (by assumption) ?r6
       case hy6=>(intro w hSw; (try dsimp only at hSw); go_simp; try with_reducible rfl)
       try simp only [Act.put,List.setIfInBounds_toArray,List.set_cons_zero,List.set_cons_succ]
       refine wpAnyH_take (i:=7) (v:=?v7) rfl (by kernel_rfl) (by kernel_rfl) (by kernel_rfl) (fun _ _ _ h=>h) (Or.inl ⟨by rfl,?hy7⟩) (by assumption) ?r7
       case hy7=>(intro w hSw; (try dsimp only at hSw); go_simp; try with_reducible rfl)
       try simp only [Act.put,List.setIfInBounds_toArray,List.set_cons_zero,List.set_cons_succ]
       refine wpAnyH_take (i:=8) (v:=?v8) rfl (by kernel_rfl) (by kernel_rfl) (by kernel_rfl) (fun _ _ _ h=>h) (Or.inl ⟨by rfl,?hy8⟩) (by assumption) ?r8
       case hy8=>(intro w hSw; (try dsimp only at hSw); go_simp; try with_reducible rfl)
       try simp only [Act.put,List.setIfInBounds_toArray,List.set_cons_zero,List.set_cons_succ]
       refine wpAnyH_ready (rs:=[1]) (by kernel_rfl) (by simp) ?_
       refine AllReadyH.cons rfl (fun K hK=>?_) AllReadyH.nil
       go_simp
       go_at_call 139
       refine HT.out.mono ?_
       rintro e w4 ⟨rfl,hU4⟩
       go_wp2
       exact ⟨rfl,rfl,hU0b.drew.then hU4⟩
 · have h16f:((sym:Int)==16)=false:=by simp; omega
   by_cases h17:sym=17
   · subst h17
     have hp:xz s 17 L a=(zG s a 3).map fun r=>((3+r.1,0),r.2):=by simp [xz]
     rw [hp]
     clear hp
     rcases zC s a 3 with ⟨t,ht4,hta,ht⟩ | ht
     · have HT:=Lib.hid (yO hR0 hs (by omega) ht)
       rw [ht]
       go_enter Tryz.func210,Tryz.ntmps210
       go_wp2_with fail
       refine HT.out.mono ?_
       rintro e w4 ⟨rfl,hR4,hU4⟩
       go_wp2
       go_returns
       exact ⟨by first | (simp [Act.put]; done) | (simp [ZR]; done),hR4,hU0b.then hU4⟩
     · have HT:=Lib.hid (yW hR0 hs (by omega) ht)
       rw [ht]
       go_enter Tryz.func210,Tryz.ntmps210
       go_wp2_with fail
       refine HT.out.mono ?_
       rintro e w4 ⟨rfl,hU4⟩
       go_wp2
       exact ⟨rfl,rfl,hU0b.then hU4⟩
   · have h17f:((sym:Int)==17)=false:=by simp; omega
     have hp:xz s sym L a=(zG s a 7).map fun r=>((11+r.1,0),r.2):=by unfold xz; rw [if_neg h16,if_neg h17]
     rw [hp]
     clear hp
     rcases zC s a 7 with ⟨t,ht4,hta,ht⟩ | ht
     · have HT:=Lib.hid (yO hR0 hs (by omega) ht)
       rw [ht]
       go_enter Tryz.func210,Tryz.ntmps210
       go_wp2_with fail
       refine HT.out.mono ?_
       rintro e w4 ⟨rfl,hR4,hU4⟩
       go_wp2
       go_returns
       exact ⟨by first | (simp [Act.put]; done) | (simp [ZR]; done),hR4,hU0b.then hU4⟩
     · have HT:=Lib.hid (yW hR0 hs (by omega) ht)
       rw [ht]
       go_enter Tryz.func210,Tryz.ntmps210
       go_wp2_with fail
       refine HT.out.mono ?_
       rintro e w4 ⟨rfl,hU4⟩
       go_wp2
       exact ⟨rfl,rfl,hU0b.then hU4⟩
end Go.Proofs.YtfkcdnaghndgfaaGreatDoor
