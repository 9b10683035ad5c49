/- BlockWrites: plain: how many bits a block has. -/
import Derived.Test.YtfkenhihcmmgkaaGreatDoorQBQ
set_option linter.unusedVariables false
set_option linter.unusedSimpArgs false
set_option linter.unusedSectionVars false
set_option maxRecDepth 100000
set_option maxHeartbeats 12800000
namespace Go.Proofs.YtfkenhihcmmgkaaGreatDoor
theorem zem (na nb:List Nat) (t:Tok):(((zfi na nb t).length:Nat):Int)=qw (ints na) (ints nb) t:=by
 unfold zfi qw;by_cases h0:t.long=0
 · rw [if_pos h0,if_pos h0,xO,yh]
 · rw [if_neg h0,if_neg h0];simp only [List.length_append,xO,zO];rw [yh,yh];have h1:jU t=257+(yU t.long.toNat 29 0).getD 0:=(by unfold jU; rw [if_neg h0]);have h2:vJ t=(ky t.back.toNat 30 0).getD 0:=rfl;rw [h1,h2];omega
theorem Kh (na nb:List Nat) : ∀ (l:List Tok) (x:Int),l.foldl (fun n t=>n+qw (ints na) (ints nb) t) x=x+((Xl na nb l).length:Nat)
 | [],x=>by simp [Xl]
 | t::l,x=>by
   have e:Xl na nb (t::l)=zfi na nb t++Xl na nb l:=(by unfold Xl; rw [List.flatMap_cons]);rw [List.foldl_cons,Kh na nb l,e,List.length_append,← zem];omega
theorem YE (na nb:List Nat) (l:List Tok):(((Vw na nb l).length:Nat):Int)=kL (ints na) (ints nb) l:=by
 rw [Xr,List.length_append,xO];unfold kL;rw [Kh,yh];omega
theorem TrimO.uniq {l:List Nat} {least:Int} {n m k:Nat} (h:TrimO l least n m) (g:TrimO l least n k):m=k:=by
 have key : ∀ {m k:Nat},TrimO l least n m→TrimO l least n k → ¬ m<k:=fun {m k} h g hlt=>by
  rcases g.last with h1 | h1 | h1
  · omega
  · rcases h.few with h2 | h2
    · have:=g.le; omega
    · omega
  · exact h1 (h.zero (k-1) (by omega) (by have:=g.le; omega))
 have:=key h g;have:=key g h;omega
theorem MadeO.uniq {l:List Tok} {a b c d:List Nat} {s r:List StpD} {e f:List Nat} (h:MadeO l a b s e) (g:MadeO l c d r f):a=c∧b=d∧s=r∧e=f:=by
 obtain ⟨u1,m1,h1,h2,h3⟩:=h.a;obtain ⟨u2,m2,g1,g2,g3⟩:=g.a;obtain rfl:=h1.uniq g1;obtain rfl:=h2.uniq g2;have ea:a=c:=by rw [h3,g3]
 obtain ⟨v1,k1,p1,p2,p3⟩:=h.b;obtain ⟨v2,k2,q1,q2,q3⟩:=g.b;obtain rfl:=p1.uniq q1;obtain rfl:=p2.uniq q2;have eb:b=d:=by rw [p3,q3]
 have es:s=r:=by rw [h.s,g.s,ea,eb]
 subst ea eb es;obtain ⟨x1,r1,r2⟩:=h.c;obtain ⟨x2,t1,t2⟩:=g.c;obtain rfl:=r1.uniq t1;exact ⟨rfl,rfl,rfl,by rw [r2,t2]⟩
theorem YD (L:List Bool) (k:Nat) (last:Bool):(zbD L k last).length=L.length+3:=by unfold zbD; rw [List.length_append,List.length_append,zO,zO]
end Go.Proofs.YtfkenhihcmmgkaaGreatDoor
namespace Go.Proofs.YtfkenhihcmmgkaaGreatDoor
open Go.RowKit
attribute [local go_sem] Oper.semAt_some
def zcM (bs:List Nat):List Tok:=bs.map fun b=>⟨b,0,0⟩
end Go.Proofs.YtfkenhihcmmgkaaGreatDoor
namespace Go.Proofs.YtfkenhihcmmgkaaGreatDoor
open Go.RowKit
attribute [local go_sem] Oper.semAt_some
theorem zhH (a:Option Addr) (n c:Nat) (w:World):Calls Tryz.prog 220 #[.slice a n c] w fun e w' =>
 e = .returned (.func (.func 253) #[] #[.pointer (some ⟨w.heap.size,0,none⟩)])∧w'=w.alloc (.cells #[.slice a n c] 220):=by
 go_enter Tryz.func220,Tryz.ntmps220;go_wp2;go_ret;exact ⟨rfl,rfl⟩
def js (n:Nat):Nat:=if n=0 then 1 else (n+7999)/8000
def zg3 (g o n cap q:Nat):Array Value := #[.slice (some ⟨g,o+24000*q,none⟩) (min (n-8000*q) 8000) (cap-8000*q),.bool (decide (q+1=js n))]
theorem jR (q:Nat):List.range (q+1)=List.range q++[q]:=List.range_succ
theorem zfa {a b:Nat} (h:a≤b):List.range a <+: List.range b:=by
 induction h with
 | refl=>exact List.prefix_refl _
 | step _ ih=>exact ih.trans ⟨_,(jR _).symm⟩
theorem zbO (Bs g o n cap:Nat) (w:World) (hB:Blk w Bs [.slice (some ⟨g,o,none⟩) n cap] 220) (hn:n≤1000000) (hc:n≤cap) (hcm:cap≤9223372036854775807) :
 SeqN Tryz.prog 253 #[.pointer (some ⟨Bs,0,none⟩)] (fun q:Nat=>zg3 g o n cap q) [Bs] [Bs] (fun xs=>xs=List.range (js n)) (fun pre=>pre <+: List.range (js n)) (fun pre q=>pre=List.range q∧q<js n) w:=by
 intro l J Jx W hU hz hJ hJx hY h0;have b1:Blk W Bs [.slice (some ⟨g,o,none⟩) n cap] 220:=hB.upd hU (by simp);have HJ:=Hi hJ;have HY:=Hi hY;have HJ0:=Hi h0;clear hJ hY h0 hJx hU hz hB;have HB:=Hi b1;clear b1;refine callsIn_of_wp Tryz.func253 rfl trivial ?_ rfl;simp only [Tryz.ntmps253,List.size_toArray,List.length_cons,List.length_nil,Nat.reduceAdd,Nat.reduceSub,Array.replicate_succ,Array.replicate_zero,List.push_toArray,List.append_toArray,List.nil_append,List.cons_append];obtain ⟨R,hR⟩ : ∃ R,js n=R:=⟨_,rfl⟩;have HR:=Hi hR;rw [hR] at HY ⊢;have hRp:0<R:=by rw [← hR]; unfold js; split<;>omega
 clear hR
 gi_wp2
 gi_loopg [] R (fun gg wr => ∃ q:Nat,q<R∧gg=R-q∧Hid (8000*q≤n)∧Hid (J (List.range q) wr)∧Hid (Blk wr Bs [.slice (some ⟨g,o+24000*q,none⟩) (n-8000*q) (cap-8000*q)] 220))
 case atStart=>exact ⟨0,hRp,rfl,Hi (by omega),HJ0,HB⟩
 case round =>
  obtain ⟨q,hq,rfl,HQ,HJq,HBq⟩:=hrel;clear HB HJ0;have c1:=HBq.out.cell 0 rfl;have HRV:Hid (zg3 g o n cap q = #[.slice (some ⟨g,o+24000*q,none⟩) (min (n-8000*q) 8000) (cap-8000*q),.bool (decide (q+1=R))]):=Hi (by unfold zg3; rw [HR.out]);have HQ2:Hid (8000*q≤n∧n≤cap∧(q+1=R↔n-8000*q≤8000)∧cap≤9223372036854775807):=Hi ⟨HQ.out,hc,by have h1:=HR.out; have:=HQ.out; unfold js at h1; split at h1<;>omega,hcm⟩;have HN1:Hid ((o+24000*q)+24000=o+24000*(q+1)∧n-8000*q-8000=n-8000*(q+1)∧cap-8000*q-8000=cap-8000*(q+1)):=Hi (by omega);obtain ⟨fn,tmps,assign,body,hy,hRd⟩:=HY.out (List.range q) q wr HJq.out ⟨rfl,hq⟩ (by intro k hk; simp at hk; subst hk; exact HBq.out.lt);have hmc:n-8000*q≤cap-8000*q:=by omega
  have hm1:=HQ2.out.2.2.1;have hc1:cap-8000*q≤9223372036854775807:=by omega
  have HQN:Hid (q+1≠R→8000*(q+1)≤n):=Hi (fun h=>by have:=HQ2.out; omega);clear HQ2 HQ;rw [HRV.out] at hy;generalize n-8000*q=m at *;generalize cap-8000*q=C at *;generalize o+24000*q=D at *;by_cases hl:q+1=R
  · have hm8:=hm1.1 hl;have hmn:min (m:Int) 8000=(m:Int):=(by omega);rw [decide_eq_true hl,Nat.min_eq_left hm8] at hy;have hmC:(m:Int)≤(C:Int):=(by omega);have hm0:(0:Int)≤(m:Int):=(by omega);have HL:=Hi hl;clear hm1 hl
    gi_wp2
    refine hRd.mono ?_;rintro e W3 (⟨rfl,hJ3,hk3⟩ | ⟨rfl,hJx3⟩)
    · have HJ3:=Hi hJ3;clear hk3 hJ3 hRd
      gi_wp2
      refine bodyPost_ret (results_none rfl _ _ _) rfl ?_;exact ⟨⟨_,rfl⟩,.inl ⟨_,by rw [← HL.out,jR],HJ3.out⟩⟩
    · have HJx3:=Hi hJx3;clear hJx3 hRd
      gi_wp2
      refine bodyPost_ret (results_none rfl _ _ _) rfl ?_;exact ⟨⟨_,rfl⟩,.inr ⟨_,by rw [← HL.out,jR]; exact List.prefix_refl _,HJx3.out⟩⟩
  · have hm8 : ¬ m≤8000:=fun h=>hl (hm1.2 h);have hmn:min (m:Int) 8000=8000:=(by omega);have hne : ¬ (8000:Int)=(m:Int):=(by omega);rw [decide_eq_false hl,Nat.min_eq_right (by omega)] at hy;have hmC:(8000:Int)≤(C:Int):=(by omega);have hbe:((8000:Int)==(m:Int))=false:=(by simp; omega);have HL:=Hi hl;have HQL:Hid (q+1<R):=Hi (by omega);clear hm1 hl
    gi_wp2
    refine hRd.mono ?_;rintro e W3 (⟨rfl,hJ3,hk3⟩ | ⟨rfl,hJx3⟩)
    · have HJ3:=Hi hJ3;have HB5:Hid (Blk W3 Bs [.slice (some ⟨g,D,none⟩) m C] 220):=Hi ((hk3.2 Bs (by simp)).trans HBq.out);have c5:=HB5.out.cell 0 rfl;have f5:=HB5.out.frz 0;clear hk3 hJ3 hRd c1
      gi_wp2
      have hB6:=HB5.out.set 0 (.slice (some ⟨g,D+24000,none⟩) (m-8000) (C-8000));simp only [List.set_cons_zero] at hB6;have hO6:Own2 [Bs] W3 (W3.setCell ⟨Bs,0,none⟩ (.slice (some ⟨g,D+24000,none⟩) (m-8000) (C-8000))) :=
       Wn (fq:=[Bs]) ((Upd.refl [Bs] W3).setCell (p:=⟨Bs,0,none⟩) (.inl (by simp)) _) (fun k hk=>hk) (fun k hk=>by simp at hk; subst hk; exact HB5.out.cellsOnly)
      have hJ6:=HJ.out (List.range (q+1)) W3 _ (by rw [jR]; exact HJ3.out) hO6;rw [HN1.out.1,HN1.out.2.1,HN1.out.2.2] at hB6 hJ6 ⊢;have HB6:=Hi hB6;have HJ6:=Hi hJ6;clear hB6 hJ6 hO6
      gi_roundg (R-(q+1))
      all_goals first
       | (have:=HQL.out; omega)
       | exact ⟨q+1,HQL.out,rfl,Hi (HQN.out HL.out),HJ6,HB6⟩
    · have HJx3:=Hi hJx3;clear hJx3 hRd
      gi_wp2
      refine bodyPost_ret (results_none rfl _ _ _) rfl ?_;exact ⟨⟨_,rfl⟩,.inr ⟨_,by rw [← jR]; exact zfa (Nat.le_of_lt HQL.out),HJx3.out⟩⟩
def zc3 (a:Option Addr) (n cap q:Nat):Array Value := #[.slice (a.map fun p=>p.add (24000*q)) (min (n-8000*q) 8000) (cap-8000*q),.bool (decide (q+1=js n))]
theorem zfU:zc3 none 0 0 0 = #[.slice none 0 0,.bool true]:=by unfold zc3 js; simp
theorem zeI (g o n cap q:Nat):zc3 (some ⟨g,o,none⟩) n cap q=zg3 g o n cap q:=by unfold zc3 zg3; simp only [Option.map_some]; first | rfl | rw [jf]
theorem zcS (Bs:Nat) (w:World) (hB:Blk w Bs [.slice none 0 0] 220) :
 SeqN Tryz.prog 253 #[.pointer (some ⟨Bs,0,none⟩)] (fun q:Nat=>zc3 none 0 0 q) [Bs] [Bs] (fun xs=>xs=List.range (1)) (fun pre=>pre <+: List.range (1)) (fun pre q=>pre=List.range q∧q<1) w:=by
 intro l J Jx W hU hz hJ hJx hY h0;have b1:Blk W Bs [.slice none 0 0] 220:=hB.upd hU (by simp);have HJ:=Hi hJ;have HY:=Hi hY;have HJ0:=Hi h0;clear hJ hY h0 hJx hU hz hB;have HB:=Hi b1;clear b1;refine callsIn_of_wp Tryz.func253 rfl trivial ?_ rfl;simp only [Tryz.ntmps253,List.size_toArray,List.length_cons,List.length_nil,Nat.reduceAdd,Nat.reduceSub,Array.replicate_succ,Array.replicate_zero,List.push_toArray,List.append_toArray,List.nil_append,List.cons_append]
 gi_wp2
 gi_loopg [] 1 (fun gg wr=>gg=1∧Hid (J [] wr)∧Hid (Blk wr Bs [.slice none 0 0] 220))
 case atStart=>exact ⟨rfl,HJ0,HB⟩
 case round =>
  obtain ⟨rfl,HJq,HBq⟩:=hrel;clear HB HJ0;have c1:=HBq.out.cell 0 rfl;obtain ⟨fn,tmps,assign,body,hy,hRd⟩:=HY.out [] 0 wr HJq.out ⟨rfl,by omega⟩ (by intro k hk; simp at hk; subst hk; exact HBq.out.lt);rw [zfU] at hy;have hm0:min (0:Int) 8000=0:=by decide
  gi_wp2
  refine hRd.mono ?_;rintro e W3 (⟨rfl,hJ3,hk3⟩ | ⟨rfl,hJx3⟩)
  · have HJ3:=Hi hJ3;clear hk3 hJ3 hRd
    gi_wp2
    refine bodyPost_ret (results_none rfl _ _ _) rfl ?_;exact ⟨⟨_,rfl⟩,.inl ⟨_,rfl,HJ3.out⟩⟩
  · have HJx3:=Hi hJx3;clear hJx3 hRd
    gi_wp2
    refine bodyPost_ret (results_none rfl _ _ _) rfl ?_;exact ⟨⟨_,rfl⟩,.inr ⟨_,List.prefix_refl _,HJx3.out⟩⟩
theorem zbY (Bs:Nat) (a:Option Addr) (n cap:Nat) (w:World) (ha:(a=none∧n=0∧cap=0) ∨ ∃ g o,a=some ⟨g,o,none⟩) (hB:Blk w Bs [.slice a n cap] 220) (hn:n≤1000000) (hc:n≤cap) (hcm:cap≤9223372036854775807) :
 SeqN Tryz.prog 253 #[.pointer (some ⟨Bs,0,none⟩)] (fun q:Nat=>zc3 a n cap q) [Bs] [Bs] (fun xs=>xs=List.range (js n)) (fun pre=>pre <+: List.range (js n)) (fun pre q=>pre=List.range q∧q<js n) w:=by
 rcases ha with ⟨rfl,rfl,rfl⟩ | ⟨g,o,rfl⟩
 · exact zcS Bs w hB
 · have h:=zbO Bs g o n cap w hB hn hc hcm;simp only [← zeI] at h;exact h
end Go.Proofs.YtfkenhihcmmgkaaGreatDoor
namespace Go.Proofs.YtfkenhihcmmgkaaGreatDoor
open Go.RowKit Go.Shelf
attribute [local go_sem] Oper.semAt_some
def rowL (l:List Tok) (q:Nat):List Tok:=(l.drop (8000*q)).take 8000
theorem XH (l:List Tok) (q:Nat):(rowL l q).length=min (l.length-8000*q) 8000:=by unfold rowL; rw [List.length_take,List.length_drop]; omega
theorem zi8 (l:List Tok) (q i:Nat) (h:i<(rowL l q).length) : ∃ h2:8000*q+i<l.length,(rowL l q)[i]=l[8000*q+i]:=by
 have h1:=h;rw [XH] at h1;refine ⟨by omega,?_⟩;simp only [rowL,List.getElem_take,List.getElem_drop]
theorem TokIn.rowL {w:World} {a:Option Addr} {n:Nat} {l:List Tok} (h:TokIn w a n l) (q:Nat):TokIn w (a.map fun p=>p.add (24000*q)) (min (n-8000*q) 8000) (rowL l q) :=
 ⟨by rw [XH,h.len],fun i hi=>by
  obtain ⟨h2,e⟩:=zi8 l q i hi;obtain ⟨b,off,rfl,⟨c1,c2,c3⟩,r⟩:=h.cell (8000*q+i) h2;rw [e];refine ⟨b,off+24000*q,by simp only [Option.map_some]; rw [jf],⟨?_,?_,?_⟩,r⟩
  · rw [show off+24000*q+i*3=off+(8000*q+i)*3 by omega]; exact c1
  · rw [show off+24000*q+i*3+1=off+(8000*q+i)*3+1 by omega]; exact c2
  · rw [show off+24000*q+i*3+2=off+(8000*q+i)*3+2 by omega]; exact c3⟩
end Go.Proofs.YtfkenhihcmmgkaaGreatDoor
namespace Go.Proofs.YtfkenhihcmmgkaaGreatDoor
open Go.RowKit
attribute [local go_sem] Oper.semAt_some
def bst (A B C:Int) (i:Nat):Nat :=
 if i≤1 then 0 else if i=2 then (if B<A then 1 else 0) else if C<(if B<A then B else A) then 2 else if B<A then 1 else 0
def at3 (A B C:Int) (i:Nat):Int:=if i=0 then A else if i=1 then B else C
theorem zj0 (A B C:Int) (i:Nat):bst A B C i<3:=by
 unfold bst
 (repeat' split)<;>omega
def zkd (l:List Tok) (w:World) (e:Ending) (w':World):Prop := ∃ (lits backs lens:List Nat) (steps:List StpD) (t:Nat),MadeO l lits backs steps lens∧ToldO lens t ∧
 e = .returned (.int .i64 (bst ((35+8*yw l:Nat):Int) (3+qM (ints (yG 4)) (ints (List.replicate 32 5)) (zt l)) (((3+(14+3*t+szT lens steps):Nat):Int)+qM (ints lits) (ints backs) (zt l)) 3:Nat))∧Upd [] w w'
theorem zeo (l:List Tok) (a:Option Addr) (n cap:Nat) (w:World) (hI:TokIn w a n l) (hn:n≤100000) (hok : ∀ t∈l,yu t) :
 Calls Tryz.prog 166 #[.slice a n cap] w fun e w'=>zkd l w e w':=by
 have HS:=Hi (zej l a n cap w hI hn hok);clear hI hok;go_enter Tryz.func166,Tryz.ntmps166;go_wp2_with fail
 refine HS.out.mono ?_;rintro e w1 ⟨lits,backs,lens,steps,t,hM,hT,rfl,hU⟩;have HM:=Hi hM;have HT:=Hi hT;have HU1:=Hi hU;obtain ⟨X,hX⟩ : ∃ X,X=((35+8*yw l:Nat):Int):=⟨_,rfl⟩;obtain ⟨Y,hY⟩ : ∃ X,X=(3+qM (ints (yG 4)) (ints (List.replicate 32 5)) (zt l)):=⟨_,rfl⟩;obtain ⟨Z,hZ⟩ : ∃ X,X=(((3+(14+3*t+szT lens steps):Nat):Int)+qM (ints lits) (ints backs) (zt l)):=⟨_,rfl⟩;rw [← hX,← hY,← hZ];have HX:=Hi hX;have HY:=Hi hY;have HZ:=Hi hZ;clear hM hT hU hX hY hZ HS;have HIX:Hid (∀ w (i:Nat),i<3→(Instr.index 289 (.agg #[.int .i64 X,.int .i64 Y,.int .i64 Z]) (.int .i64 (i:Nat))).run Tryz.prog w = .ok (.int .i64 (at3 X Y Z i)) w):=Hi (fun w i hi=>by
  obtain rfl | rfl | rfl:i=0∨i=1∨i=2:=by omega
  all_goals exact Qh (P:=Tryz.prog) 289 3 3 Tryz.underlying289 .i64 Tryz.underlying3 (by kernel_rfl) [.int .i64 X,.int .i64 Y,.int .i64 Z] rfl .i64 _ (by omega) w)
 go_simp;go_wp2;have HB:=Hi (Blk.new w1 [.int .i64 X,.int .i64 Y,.int .i64 Z] 289);have HU2:=Hi (HU1.out.alloc (.cells #[.int .i64 X,.int .i64 Y,.int .i64 Z] 289));change Code.wp _ _ _ _ (w1.alloc (.cells #[.int .i64 X,.int .i64 Y,.int .i64 Z] 289));generalize w1.alloc (.cells #[.int .i64 X,.int .i64 Y,.int .i64 Z] 289)=w2 at *;generalize w1.heap.size=b at *;go_loopg [2,9] 3 (fun gg s2 s9 wr => ∃ i:Nat,i≤3∧gg=3-i∧s9 = .int .i64 (i:Nat)∧s2 = .int .i64 (bst X Y Z i:Nat)∧wr=w2)
 case atStart=>exact ⟨0,by omega,by omega,rfl,rfl,rfl⟩
 case round =>
  obtain ⟨i,hi3,rfl,rfl,rfl,hwr⟩:=hrel;subst hwr;have hbl:=zj0 X Y Z i;by_cases hc:i<3
  · have hix:=HIX.out wr i hc;have hw1:IntKind.i64.wrap ((i:Int)+1)=((i+1:Nat):Int):=(by rw [IntWalk.i64_in _ (by omega)]; rfl);have HN:Hid (bst X Y Z (i+1)=if at3 X Y Z i<at3 X Y Z (bst X Y Z i) then i else bst X Y Z i):=Hi (by
     obtain rfl | rfl | rfl:i=0∨i=1∨i=2:=by omega
     · simp [bst,at3]
     · by_cases h1:Y<X<;>simp [bst,at3,h1]
     · by_cases h1:Y<X<;>by_cases h2:Z<Y<;>by_cases h3:Z<X<;>simp [bst,at3,h1,h2,h3])
    have hcz:(i:Int)<3:=(by omega);generalize bst X Y Z i=K at *;have hKc:wr.cell? ⟨b,K,none⟩=some (.int .i64 (at3 X Y Z K)):=by
     obtain rfl | rfl | rfl:K=0∨K=1∨K=2:=(by omega);all_goals exact HB.out.cell _ rfl
    generalize at3 X Y Z i=V at *;generalize at3 X Y Z K=U at *;go_wp2;all_goals go_roundg (3-(i+1))
    · exact ⟨i+1,by omega,by first | rfl | omega,by first | rfl | go_num,by rw [HN.out,if_pos (by omega)],rfl⟩
    · omega
    · exact ⟨i+1,by omega,by first | rfl | omega,by first | rfl | go_num,by rw [HN.out,if_neg (by omega)],rfl⟩
    · omega
  · obtain rfl:i=3:=(by omega);go_wp2;go_ret;exact ⟨lits,backs,lens,steps,t,HM.out,HT.out,by rw [HX.out,HY.out,HZ.out]; rfl,HU2.out⟩
theorem zeJ (l:List Tok) (a:Option Addr) (n cap:Nat) (w:World) (hI:TokIn w a n l) (hn:n≤100000) (hok : ∀ t∈l,yu t) :
 Calls Tryz.prog 221 #[.slice a n cap] w fun e w'=>e = .returned (.int .i64 (yw l:Nat))∧Upd [] w w':=by
 have hln:=hI.len;have HEL:=Hi (fun i=>Zj (l.take i) (fun t h=>hok t (List.mem_of_mem_take h)));have HOK:=Hi hok;have HI:=Hi hI;have HLN:=Hi hln;clear hI hok hln;go_enter Tryz.func221,Tryz.ntmps221;go_wp2;go_loopg [2,7] 200000 (fun gg s2 s7 wr => ∃ i:Nat,i≤n∧gg=200000-i∧s7 = .int .i64 (i:Nat)∧s2 = .int .i64 (yw (l.take i):Nat)∧Hid (Upd [] w wr))
 case atStart=>exact ⟨0,by omega,by omega,rfl,rfl,Hi (Upd.refl _ _)⟩
 case round =>
  obtain ⟨i,hin,rfl,rfl,rfl,HU⟩:=hrel;have hms:yw (l.take i)≤258*i:=Nat.le_trans (HEL.out i) (Nat.mul_le_mul_left _ (List.length_take_le _ _));by_cases hc:i<n
  · have hcz:(i:Int)<(n:Int):=(by omega);have hil:i<l.length:=(by rw [HLN.out]; exact hc);have hw1:IntKind.i64.wrap ((i:Int)+1)=((i+1:Nat):Int):=(by rw [IntWalk.i64_in _ (by omega)]; rfl);obtain ⟨b,off,rfl,⟨hc1,hc2,hc3⟩,r1,r2,r3⟩:=(HI.out.pure HU.out).cell i hil;have HSM:Hid (yw (l.take (i+1))=yw (l.take i)+jl l[i]):=Hi (by rw [List.take_succ_eq_append_getElem hil,Zw]);have htl:=Zd (HOK.out _ (List.getElem_mem hil));have hmx:max 1 l[i].long=(jl l[i]:Int):=(by unfold jl; split<;>omega);generalize l[i]=t at *;generalize jl t=mt at *;obtain ⟨tb,tl,tk⟩:=t;dsimp only at hc1 hc2 hc3 r1 r2 r3 hmx;have HU4:=Hi (HU.out.alloc (.cells #[.int .u8 (tb:Nat),.int .i64 tl,.int .i64 tk] 287));generalize yw (l.take i)=ms at *;have hws:IntKind.i64.wrap ((ms:Int)+(mt:Int))=((ms+mt:Nat):Int):=(by rw [IntWalk.i64_in _ (by omega)]; rfl);clear hil;go_wp2;go_roundg (200000-(i+1))
    · exact ⟨i+1,by omega,by first | rfl | omega,by first | rfl | go_num,by rw [HSM.out]; first | rfl | go_num,HU4⟩
    · omega
  · have hcz : ¬ (i:Int)<(n:Int):=(by omega);obtain rfl:i=n:=(by omega);have htk:l.take i=l:=List.take_of_length_le (by rw [HLN.out]; exact Nat.le_refl _);rw [htk] at hms ⊢;clear htk;go_wp2;go_ret;exact ⟨rfl,HU.out⟩
end Go.Proofs.YtfkenhihcmmgkaaGreatDoor
namespace Go.Proofs.YtfkenhihcmmgkaaGreatDoor
open Go.RowKit
theorem zg8 {L M:List Bool} {l:List Tok} {k:Nat} {last:Bool} (hB:zd0 L l k last M) (hok : ∀ t∈l,yu t) (hn:l.length≤100000):M.length≤L.length+10000000:=by
 have hml:(zt l).1.length=286∧(zt l).2.length=30:=by have:=qV l l.length (Nat.le_refl _); rw [List.take_length] at this; exact ⟨this.la,this.lb⟩
 rcases hB with ⟨h,e⟩ | ⟨h,e⟩ | ⟨h,lits',backs',steps',lens',t',hM',hT',e⟩
 · have hbl:(za0 l).length=l.length:=List.length_map _;rw [e];unfold zg2;rw [List.length_append,List.length_append,List.length_append,Vd,YD,zO,zO,jh,hbl];omega
 · rw [e,List.length_append,YD];have:=YE (yG 4) (List.replicate 32 5) l;have h2:=JE _ _ (qr vB.1) (qr vB.2.1) l hn hok;have h3:=Qe _ _ vB.1 vB.2.1 l hn hok;omega
 · obtain ⟨_,_,_,_,x15,y15,hsy,hl7,_,hsl⟩:=hM'.bd hml;rw [e,List.length_append,List.length_append,YD];have h1:=ziL lits'.length backs'.length t' lens' steps' hT'.hi (fun x hx=>by have:=hl7 x hx; omega) (fun s hs=>(hsy s hs).2);have:=YE lits' backs' l;have h2:=JE _ _ (qr x15) (qr y15) l hn hok;have h3:=Qe _ _ x15 y15 l hn hok;omega
def zjn (l:List Tok) (q:Nat):Nat:=yw (l.take (8000*q))
def zho (bs:List Nat) (l:List Tok) (q k:Nat):List Tok:=if k=0 then zcM ((bs.drop (zjn l q)).take (yw (rowL l q))) else rowL l q
inductive RT (bs:List Nat) (l:List Tok) (KK:List Tok→Nat→Prop):Nat→List Bool→Prop
 | zero:RT bs l KK 0 []
 | succ {q k:Nat} {L M:List Bool}:RT bs l KK q L→KK (rowL l q) k→k≤2→zd0 L (zho bs l q k) k (decide (q+1=js l.length)) M→RT bs l KK (q+1) M
theorem ziT {l:List Tok} (hok : ∀ t∈l,yu t) (q:Nat) : ∀ t∈rowL l q,yu t:=fun t ht=>hok t (List.mem_of_mem_drop (List.mem_of_mem_take ht))
theorem zeH {bs:List Nat} (h : ∀ b∈bs,b<256) : ∀ t∈zcM bs,yu t:=fun t ht=>by
 obtain ⟨b,hb,rfl⟩:=List.mem_map.1 ht;exact .inl ⟨rfl,rfl,h b hb⟩
theorem ziQ {bs:List Nat} {l:List Tok} (hok : ∀ t∈l,yu t) (hb : ∀ b∈bs,b<256) (q k:Nat) : ∀ t∈zho bs l q k,yu t:=by
 unfold zho;split
 · exact zeH (fun b h=>hb b (List.mem_of_mem_drop (List.mem_of_mem_take h)))
 · exact ziT hok q
theorem zht {bs:List Nat} {l:List Tok} (hbs:bs.length≤65000) (q k:Nat):(zho bs l q k).length≤65000:=by
 unfold zho zcM;split
 · rw [List.length_map,List.length_take,List.length_drop]; omega
 · rw [XH]; omega
theorem RT.up {bs:List Nat} {l:List Tok} {KK:List Tok→Nat→Prop} (hok : ∀ t∈l,yu t) (hb : ∀ b∈bs,b<256) (hbs:bs.length≤65000) : ∀ {q:Nat} {L:List Bool},RT bs l KK q L→L.length≤10000000*q
 | _,_,.zero=>by simp
 | _,_,.succ h _ _ hB=>by
   have h1:=h.up hok hb hbs;have h2:=zg8 hB (ziQ hok hb _ _) (Nat.le_trans (zht hbs _ _) (by omega));omega
end Go.Proofs.YtfkenhihcmmgkaaGreatDoor
namespace Go.Proofs.YtfkenhihcmmgkaaGreatDoor
open Go.RowKit
attribute [local go_sem] Oper.semAt_some
theorem zid (w:World):WrAt (w.alloc (.cells #[.slice none 0 0,.int .u64 0,.int .i64 0] 275)) w.heap.size (.slice none 0 0) [] 0 :=
 ⟨Blk.new w [.slice none 0 0,.int .u64 0,.int .i64 0] _,Row.nil _ _ _,Nat.le_refl _,by simp [Value.ownBlock]⟩
def LdI (bs:List Nat) (l:List Tok) (KK:List Tok→Nat→Prop) (kf:Nat) (w0 wz:World) (b3 b5 bw:Nat) (pre:List Nat) (W:World):Prop :=
 Blk W b3 [.string (zg (bs.drop (zjn l pre.length)))] 9∧Blk W b5 [.func (.func kf) #[] #[]] 222 ∧
 (∃ v L,WrAt W bw v L (L.length/8)∧(∀ k,v.ownBlock=some k→wz.heap.size≤k)∧RT bs l KK pre.length L)∧Upd [] w0 W
theorem LdI.own {bs:List Nat} {l:List Tok} {KK:List Tok→Nat→Prop} {kf:Nat} {w0 wz:World} {b3 b5 bw B:Nat} (hB:w0.heap.size≤B):OwnFrom B (LdI bs l KK kf w0 wz b3 b5 bw):=fun p X C row hs hgr hr=>by
 obtain ⟨h1,h2,⟨v,L,h3,h4,h5⟩,h6⟩:=hs;exact ⟨zF B b3 (fun (_:Unit)=>_) _ () X C row h1 hgr hr,zF B b5 (fun (_:Unit)=>_) _ () X C row h2 hgr hr,⟨v,L,⟨zF B bw (fun (_:Unit)=>_) _ () X C row h3.blk hgr hr,h3.row.ownF hgr hr,h3.le,h3.far⟩,h4,h5⟩,qa B [] w0 hB () X C row h6 hgr hr⟩
theorem LdI.w2 {bs:List Nat} {l:List Tok} {KK:List Tok→Nat→Prop} {kf:Nat} {w0 wz:World} {b3 b5 bw be:Nat} (h0:w0.heap.size≤be) (hb:b3≠be∧b5≠be∧bw≠be) (hz:be<wz.heap.size) : ∀ p X C,LdI bs l KK kf w0 wz b3 b5 bw p X→Own2 [be] X C→LdI bs l KK kf w0 wz b3 b5 bw p C:=fun p X C hs hAC=>by
 obtain ⟨h1,h2,⟨v,L,h3,h4,h5⟩,h6⟩:=hs;refine ⟨h1.upd hAC.1 (by simp; exact hb.1),h2.upd hAC.1 (by simp; exact hb.2.1),⟨v,L,h3.upd hAC.1 (by simp; exact hb.2.2) (fun k hk hm=>?_),h4,h5⟩,h6.trans hAC.1 (fun k hk => .inr (by simp at hk; omega))⟩;have:=h4 k hk; simp at hm; omega
theorem TokIn.far {w w':World} {a:Option Addr} {n:Nat} {l:List Tok} {fp:List Nat} (h:TokIn w a n l) (hU:Upd fp w w') (hf : ∀ k∈fp,w.heap.size≤k):TokIn w' a n l :=
 ⟨h.len,fun i hi=>by
  obtain ⟨b,off,e,⟨c1,c2,c3⟩,r⟩:=h.cell i hi;have hb:b<w.heap.size:=World.block_lt_of_cell? w _ c1;have hn:b∉fp:=fun hm=>by have:=hf _ hm; omega
  exact ⟨b,off,e,⟨(hU.at hb hn _).trans c1,(hU.at hb hn _).trans c2,(hU.at hb hn _).trans c3⟩,r⟩⟩
end Go.Proofs.YtfkenhihcmmgkaaGreatDoor
namespace Go.Proofs.YtfkenhihcmmgkaaGreatDoor
open Go.RowKit
attribute [local go_sem] Oper.semAt_some
theorem zjB:qM (ints (yG 4)) (ints (List.replicate 32 5)) (zt [⟨120,0,0⟩])=15:=by decide +kernel
theorem zik : ∀ t∈[(⟨120,0,0⟩:Tok)],yu t:=fun t ht=>by rw [List.mem_singleton.1 ht]; exact .inl ⟨rfl,rfl,by decide⟩
theorem zjy (a:Option Addr) (cap:Nat) (w:World) (hT:TokIn w a 1 [⟨120,0,0⟩]):Calls Tryz.prog 166 #[.slice a 1 cap] w fun e w'=>e = .returned (.int .i64 1)∧Upd [] w w' :=
 (zeo [⟨120,0,0⟩] a 1 cap w hT (by omega) zik).mono (by
  rintro e w' ⟨lits,backs,lens,steps,t,hM,hT,rfl,hU⟩;refine ⟨?_,hU⟩;have hml:(zt [(⟨120,0,0⟩:Tok)]).1.length=286∧(zt [(⟨120,0,0⟩:Tok)]).2.length=30:=by decide +kernel
  obtain ⟨_,_,_,_,x15,y15,_⟩:=hM.bd hml;have hb:=Qe lits backs x15 y15 [⟨120,0,0⟩] (by simp) zik;have h0:yw [(⟨120,0,0⟩:Tok)]=1:=rfl;have hlo:=hT.lo;rw [zjB,h0];generalize qM (ints lits) (ints backs) (zt [⟨120,0,0⟩])=B at *;have e2:bst ((35+8*1:Nat):Int) (3+15) (((3+(14+3*t+szT lens steps):Nat):Int)+B) 3=1:=by
   unfold bst;rw [if_neg (by omega : ¬ (3:Nat)≤1),if_neg (by omega : ¬ (3:Nat)=2),if_pos (by decide:(3+15:Int)<((35+8*1:Nat):Int)),if_neg (by omega),if_pos (by decide)]
  rw [e2];rfl)
def LdX (S:ByteArray) (w0 wz:World) (b3 b5 bw:Nat) (pre:List Nat) (W:World):Prop :=
 (∃ s,Blk W b3 [.string s] 9∧(pre=[]→s=S))∧Blk W b5 [.func (.func 166) #[] #[]] 222 ∧
 (∃ v L,WrAt W bw v L (L.length/8)∧(∀ k,v.ownBlock=some k→wz.heap.size≤k)∧L.length≤1000∧(pre=[]→L=[])∧(pre≠[]→1≤L.length))∧Upd [] w0 W
theorem LdX.own {S:ByteArray} {w0 wz:World} {b3 b5 bw B:Nat} (hB:w0.heap.size≤B):OwnFrom B (LdX S w0 wz b3 b5 bw):=fun p X C row hs hgr hr=>by
 obtain ⟨⟨s,h1,h1'⟩,h2,⟨v,L,h3,h4,h5⟩,h6⟩:=hs;exact ⟨⟨s,zF B b3 (fun (_:Unit)=>_) _ () X C row h1 hgr hr,h1'⟩,zF B b5 (fun (_:Unit)=>_) _ () X C row h2 hgr hr,⟨v,L,⟨zF B bw (fun (_:Unit)=>_) _ () X C row h3.blk hgr hr,h3.row.ownF hgr hr,h3.le,h3.far⟩,h4,h5⟩,qa B [] w0 hB () X C row h6 hgr hr⟩
theorem LdX.upd {S:ByteArray} {w0 wz:World} {b3 b5 bw:Nat} {p:List Nat} {X C:World} {fp:List Nat} (hs:LdX S w0 wz b3 b5 bw p X) (hu:Upd fp X C) (hb : ∀ k∈fp,k≠b3∧k≠b5∧k≠bw∧k<wz.heap.size∧w0.heap.size≤k):LdX S w0 wz b3 b5 bw p C:=by
 obtain ⟨⟨s,h1,h1'⟩,h2,⟨v,L,h3,h4,h5⟩,h6⟩:=hs;refine ⟨⟨s,h1.upd hu (fun h=>(hb _ h).1 rfl),h1'⟩,h2.upd hu (fun h=>(hb _ h).2.1 rfl),⟨v,L,h3.upd hu (fun h=>(hb _ h).2.2.1 rfl) (fun k hk hm=>?_),h4,h5⟩,h6.trans hu (fun k hk => .inr (hb _ hk).2.2.2.2)⟩;have:=h4 k hk;have:=(hb _ hm).2.2.2.1;omega
theorem ziB {S:ByteArray} {w0 wz W W2 w9:World} {b3 b5 bw be:Nat} {v v' s x:Value} {y:ByteArray} {M:List Bool} (hx:x = .string y) (g:w0.heap.size≤b3∧b3<b5∧b5<bw∧bw<be∧be<wz.heap.size∧wz.heap.size≤W.heap.size)
 (h1:Blk W b3 [s] 9) (h2:Blk W b5 [.func (.func 166) #[] #[]] 222) (h3:WrAt W bw v [] 0) (h4 : ∀ k,v.ownBlock=some k→wz.heap.size≤k) (h6:Upd [] w0 W) (hU2:Upd [] W W2) (hws:WS W2 bw v w9 v' M) (hM:1≤M.length∧M.length≤1000) :
 KeepsFrom wz.heap.size W (w9.setCell ⟨b3,0,none⟩ x)∧Keep [be] W (w9.setCell ⟨b3,0,none⟩ x)∧LdX S w0 wz b3 b5 bw ([]++[0]) (w9.setCell ⟨b3,0,none⟩ x):=by
 obtain ⟨g1,g2,g3,g4,g5,g6⟩:=g;have hs2:=hU2.size;have hU9:Upd (xJ bw v) W w9:=(hU2.mono (fun k hk=>by cases hk)).trans hws.upd (fun k hk => .inl hk);have hfp : ∀ k∈xJ bw v,k=bw∨wz.heap.size≤k:=fun k hk=>(List.mem_cons.1 hk).imp id (fun hk=>h4 k (by simpa using hk));have hUF:Upd (b3::xJ bw v) W (w9.setCell ⟨b3,0,none⟩ x):=(hU9.mono (fun k hk => .inl (List.mem_cons_of_mem _ hk))).setCell (.inl (by simp)) _;have hown : ∀ k,v'.ownBlock=some k→wz.heap.size≤k:=fun k hk=>by
  rcases hws.later with e | ⟨q,e,hq⟩
  · exact h4 k (by rw [← e]; exact hk)
  · rw [hk] at e; cases e; omega
 have hb3:b3∉xJ bw v:=fun hm=>by rcases hfp _ hm with h | h<;>omega
 have hb5:b5∉b3::xJ bw v:=fun hm=>by
  rcases List.mem_cons.1 hm with e | hm
  · omega
  · rcases hfp _ hm with h | h<;>omega
 refine ⟨(hUF.others (fun k hk=>?_)).from _,Keep.of_upd hUF (fun k hk=>?_),⟨y,hx▸(h1.upd hU9 hb3).set 0 _,(fun h=>by cases h)⟩,h2.upd hUF hb5,⟨v',M,⟨hws.at_.blk.setFar (a:=⟨b3,0,none⟩) _ (by simp; omega),hws.at_.row.setFar (a:=⟨b3,0,none⟩) _ (fun e=>by have:=hown _ e; simp at this; omega),hws.at_.le,hws.at_.far⟩,hown,hM.2,(fun h=>by cases h),fun _=>hM.1⟩,?_⟩
 · rcases List.mem_cons.1 hk with rfl | hk
   · exact h1.cellsOnly
   · rcases List.mem_cons.1 hk with rfl | hk
     · exact h3.blk.cellsOnly
     · exact h3.row.cellsOnly k (by simpa using hk)
 · have hk2:k=be:=(by simpa using hk);refine ⟨by omega,fun hm=>?_⟩;rcases List.mem_cons.1 hm with e | hm
   · omega
   · rcases hfp _ hm with h | h<;>omega
 · refine h6.trans hUF (fun k hk => .inr ?_);rcases List.mem_cons.1 hk with rfl | hk
   · exact g1
   · rcases hfp k hk with h | h<;>(have:=h6.size; omega)
theorem zj7 (S:ByteArray) (hS:S.size=1) (g c:Nat) (w:World) (hT:TokIn w (some ⟨g,0,none⟩) 1 [⟨120,0,0⟩]) (hc:1≤c) (hcm:c≤9223372036854775807) :
 Calls Tryz.prog 164 #[.string S,.slice (some ⟨g,0,none⟩) 1 c,.func (.func 166) #[] #[]] w fun e w' => ∃ X,e = .returned (.string X)∧1≤X.size∧Upd [] w w':=by
 have HT:=Hi hT;have W1:Hid (LdX S w ((((w.alloc (.cells #[.string S] 9)).alloc (.cells #[.func (.func 166) #[] #[]] 222)).alloc (.cells #[.slice none 0 0,.int .u64 0,.int .i64 0] 275)).alloc (.cells #[.slice (some ⟨g,0,none⟩) 1 c] 220)) w.heap.size (w.heap.size+1) (w.heap.size+1+1) [] (((w.alloc (.cells #[.string S] 9)).alloc (.cells #[.func (.func 166) #[] #[]] 222)).alloc (.cells #[.slice none 0 0,.int .u64 0,.int .i64 0] 275))):=Hi (by
  refine ⟨⟨S,((Blk.new w _ _).alloc _).alloc _,fun _=>rfl⟩,?_,⟨.slice none 0 0,[],?_,fun k hk=>by simp [Value.ownBlock] at hk,by simp,fun _=>rfl,fun h=>absurd rfl h⟩,(((Upd.refl [] w).alloc _).alloc _).alloc _⟩
  · simpa using (Blk.new (w.alloc (.cells #[.string S] 9)) [.func (.func 166) #[] #[]] 222).alloc (.cells #[.slice none 0 0,.int .u64 0,.int .i64 0] 275)
  · simpa using zid ((w.alloc (.cells #[.string S] 9)).alloc (.cells #[.func (.func 166) #[] #[]] 222)))
 have hs1:(((w.alloc (.cells #[.string S] 9)).alloc (.cells #[.func (.func 166) #[] #[]] 222)).alloc (.cells #[.slice none 0 0,.int .u64 0,.int .i64 0] 275)).heap.size=w.heap.size+3:=by simp
 clear hT;refine (callsIn_wide (n:=9)).1 ?_;refine callsIn_of_wp_marks Tryz.func164 rfl trivial ?_ rfl;simp only [Tryz.ntmps164,List.size_toArray,List.length_cons,List.length_nil,Nat.reduceAdd,Nat.reduceSub,Array.replicate_succ,Array.replicate_zero,List.push_toArray,List.append_toArray,List.nil_append,List.cons_append];refine wpIn_wide.2 ?_
 let QQ:Exit→Act→World→Prop:=bodyPost Tryz.prog Tryz.f164 (fun _ _=>True)
 go_wp2_with fail
 change Calls _ _ _ (((w.alloc (.cells #[.string S] 9)).alloc (.cells #[.func (.func 166) #[] #[]] 222)).alloc (.cells #[.slice none 0 0,.int .u64 0,.int .i64 0] 275)) _;generalize ((w.alloc (.cells #[.string S] 9)).alloc (.cells #[.func (.func 166) #[] #[]] 222)).alloc (.cells #[.slice none 0 0,.int .u64 0,.int .i64 0] 275)=w1 at *;refine (zhH _ _ _ w1).mono ?_;rintro e w4 ⟨rfl,hw4⟩;rw [← hw4] at W1;have hU4:Upd [] w1 w4:=by rw [hw4]; exact (Upd.refl _ _).alloc _
 have HS4:Hid (Blk w4 w1.heap.size [.slice (some ⟨g,0,none⟩) 1 c] 220):=Hi (by rw [hw4]; exact Blk.new w1 _ _);have hz4:w4.heap.size=w1.heap.size+1:=by rw [hw4]; simp
 have HI4:=Hi (W1.out.upd hU4 (by simp));clear hw4 hU4 W1;obtain ⟨b3,hb3⟩ : ∃ b3,w.heap.size=b3:=⟨_,rfl⟩;obtain ⟨b5,hb5⟩ : ∃ b5,w.heap.size+1=b5:=⟨_,rfl⟩;obtain ⟨bw,hbw⟩ : ∃ bw,w.heap.size+1+1=bw:=⟨_,rfl⟩;obtain ⟨be,hbe⟩ : ∃ be,w1.heap.size=be:=⟨_,rfl⟩;rw [hbw,hb5,hb3] at HI4 ⊢;rw [hbe] at HS4 hs1 hz4 ⊢;have HBS:=Hi (show w.heap.size=b3∧b5=b3+1∧bw=b3+2∧be=b3+3∧w4.heap.size=b3+4 by omega);clear hbe hs1 hz4 hb3 hb5 hbw;go_wp2_with fail
 refine zbR ?_;intro fr hfr;refine Code.wp_mono (Q:=fun e a' W=>e = .normal ∧ ∃ D pre,a' = { fr with defers := { target := .collected D,args := #[] }::fr.defers }∧w4.heap.size≤D∧W.heap[D]? =some (.deferred (some []))∧LdX S w w4 b3 b5 bw pre W∧Hid (pre=List.range (js 1))) ?cont ((wpIn_wide (n:=9)).1 ?main)
 case main =>
  refine zcf (gf:=253) (lb := #[.pointer (some ⟨be,0,none⟩)]) (by rw [hfr]; rfl) (enters_of Tryz.func253 (by kernel_rfl) rfl)
   (zbY be (some ⟨g,0,none⟩) 1 c w4 (.inr ⟨g,0,rfl⟩) HS4.out (by omega) hc hcm) (by intro k hk; simp at hk; have:=HBS.out; omega) (fun _=>rfl)
   (fun pre W=>LdX S w w4 b3 b5 bw pre W)
   (fun _ _ _=>False)
   ?act
   (LdX.own (by have:=HBS.out; omega)) (fun c=>fun _ _ _ _ h _ _=>h)
   (fun p X C h hu=>h.upd hu.1 (fun k hk=>by simp at hk; have:=HBS.out; omega)) (fun _ _ _ _ h _=>h) HI4.out ?assign ?body ?done ?stop
  case assign =>
   intro L1 x W K hK;subst hfr;simp only [zc3]
   gi_wp2
   exact hK
  case body =>
   rintro L1 pre x W hsz hfp hI ⟨hpx,hxN⟩;subst hfr;have hz0:js 1=1:=(by decide);obtain rfl:x=0:=(by omega)
   obtain rfl:pre=[]:=hpx;obtain ⟨⟨s,h1,h1'⟩,h2,⟨v,L,h3,h4,-,h5,-⟩,h6⟩:=hI;rw [h1' rfl] at h1;obtain rfl:=h5 rfl;have hTx:=HT.out.pure h6.drew;have HTF:=Hi (fun (w':World) (fp:List Nat) (hU:Upd fp w w') (hf : ∀ k∈fp,w.heap.size≤k)=>HT.out.far hU hf);have H1:=Hi h1;have H2:=Hi h2;have H3:=Hi h3;have H4:=Hi h4;have H6:=Hi h6;have hz1:(S.size:Int)=1:=(by omega);have hrn:js 1=1:=(by decide);have had:(⟨g,0,none⟩:Addr).add (24000*0)=⟨g,0,none⟩:=rfl;clear h1 h2 h3 h4 h6 hfp
   gi_wp2_with fail
   refine Vb (S:=fun w'=>Blk w' b5 [.func (.func 166) #[] #[]] 222) (by kernel_rfl) (by kernel_rfl) H2.out.drew (fun hHeld K0 hKQ=>?_);refine hdT 0 (some 16) ?_; refine hdT 2 (some 18) ?_ (hy:=by intro w0 hSw; have q0:=hSw.cell 0 rfl; go_simp; try with_reducible rfl); refine hdT 3 (some 19) ?_;refine hdO 1 (fun K hK=>?_);go_simp;refine (zeJ [⟨120,0,0⟩] (some ⟨g,0,none⟩) 1 c _ hTx (by omega) zik).mono ?_;rintro e z1 ⟨rfl,hz1⟩;rw [show yw [(⟨120,0,0⟩:Tok)]=1 from rfl];go_wp2;refine hK.out _ _ (hHeld.upd hz1 (by simp)) (fun hHeld=>hdN ?_);clear hK K;have hkf : ∀ args w,(callFunc 166 args).run Tryz.prog w = .ok (.enter 166 args) w:=enters_of Tryz.func166 (by kernel_rfl) rfl;refine hdO 4 (fun K hK=>?_);go_simp;refine (zjy _ _ _ (hTx.pure hz1)).mono ?_;rintro e z2 ⟨rfl,hz2⟩;go_wp2;refine hK.out _ _ (hHeld.upd hz2 (by simp)) (fun hHeld=>hdN ?_);clear hK K;refine hdT 5 (some 10) ?_; refine hdT 6 (some 11) ?_;refine wpAnyH_done (by kernel_rfl) ?_ 0;refine hKQ _ _ ?_;have hUk:Upd [] W z2:=((Upd.refl [] W).drew.then hz1).then hz2;have HWR:=Hi (zgG bw v (some ⟨g,0,none⟩) c z2 (fun w' hU'=>HTF.out w' (xJ bw v) (((H6.out.then hUk).mono (fun k hk=>by cases hk)).trans hU' (fun k hk => .inl hk)) (fun q hq=>by
    have:=HBS.out;rcases List.mem_cons.1 hq with e | hq
    · omega
    · have:=H4.out q (by simpa using hq); omega)) (H3.out.upd hUk (by simp) (by simp)))
   have HUk:=Hi hUk;clear hHeld hz1 hz2 hTx hkf hUk hKQ K0;simp only [Exit.then]
   gi_wp2_with fail
   refine ⟨trivial,(CallsIn.inRound L1 (callsIn_wide.2 HWR.out)).mono ?_⟩;rintro e w9 ⟨rfl,v',M,hm1,hm2,hws⟩;have HE:=Hi (fun (x:Value) (y:ByteArray) (hx:x = .string y)=>ziB (S:=S) (be:=be) hx (by have:=HBS.out; omega) H1.out H2.out H3.out H4.out H6.out HUk.out hws ⟨hm1,hm2⟩);have hb9:=(H1.out.upd HUk.out (by simp)).upd hws.upd (fun hm=>by
    have:=HBS.out;rcases List.mem_cons.1 hm with e | hm
    · omega
    · have:=H4.out _ (by simpa using hm); omega)
   have c9:=hb9.cell 0 rfl;have f9:=hb9.frz 0;clear hb9 hws HWR
   gi_wp2
   exact HE.out _ _ rfl
  case done =>
   rintro D xs W hD hxs hI hK;exact ⟨rfl,D,_,rfl,hD,hK,hI,Hi hxs⟩
  case stop =>
   rintro D c pre W hD hpre h hK;exact h.elim
 case cont =>
  rintro e a' wz ⟨rfl,D,pre,rfl,hD,hDk,hI,HP⟩;subst hfr;obtain ⟨-,-,⟨v,L,h3,h4,hl,-,h5⟩,h6⟩:=hI;have hl1:=h5 (by rw [HP.out]; decide);have HDk:=Hi hDk;have HU:=Hi h6;have HBY:=Hi (zeU bw wz v L h3 (by omega));have hX1:1≤(zg (pack L)).size:=by rw [zk,pack,ZL]; omega
  have HX1:=Hi hX1;have HWD:=Hi (show w.heap.size≤D by have:=HBS.out; omega);clear h3 h4 h5 h6 hDk hX1;go_wp2_with fail
  refine HBY.out.mono ?_;rintro e w9 ⟨rfl,hu9⟩;have HD9:=Hi ((hu9.block D (Array.getElem?_eq_some_iff.1 HDk.out).1 (by simp)).trans HDk.out);have HU9:=Hi (HU.out.then hu9);clear hu9;go_wp2;refine ⟨by simp,.inl ⟨_,_,rfl,run_takeDeferred HD9.out,?_⟩⟩;exact ⟨_,results_tmp rfl _ _ _,_,rfl,HX1.out,HU9.out.putObj' HWD.out _⟩
end Go.Proofs.YtfkenhihcmmgkaaGreatDoor
namespace Go.Proofs.YtfkenhihcmmgkaaGreatDoor
open Go.RowKit
attribute [local go_sem] Oper.semAt_some
theorem zkz (w:World):Calls Tryz.prog 96 #[.string { data := #[120] },.int .i64 9] w fun e w' => ∃ X,e = .returned (.string X)∧1≤X.size∧Upd [] w w':=by
 go_enter Tryz.func96,Tryz.ntmps96;go_wp2_with fail
 refine (zav 120 _).mono ?_;rintro e w1 ⟨g,c,rfl,hR,hU1⟩;have HU1:=Hi hU1;have hR2:Row w1 287 3 (.slice (some ⟨g,0,none⟩) 1 c) 1 (tcs [⟨120,0,0⟩]):=hR;obtain ⟨a,c2,e2,hT,-,ha,hc⟩:=TokIn.of_row hR2 (fun t ht=>by
  have:=zik t ht;unfold yu at this;omega)
 injection e2 with e3 e4 e5;subst e3 e5;have HL:=Hi (zj7 { data := #[120] } rfl g c w1 hT hc (by rcases hR.2 with ⟨hv,_⟩ | ⟨_,cap,_,hv,_,_,_,hm,_⟩<;>cases hv; unfold maxLen at hm; omega));clear hU1 hR hR2 hT ha hc;go_wp2_with fail
 refine HL.out.mono ?_;rintro e w2 ⟨X,rfl,hX,hU2⟩;have HU2:=Hi (HU1.out.then hU2);clear hU2 HL;go_wp2;go_ret;exact ⟨X,rfl,hX,HU2.out⟩
end Go.Proofs.YtfkenhihcmmgkaaGreatDoor
