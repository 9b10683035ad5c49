/- Package deflate: the iterator over rows of tokens: its contract. -/
import Derived.Deep.QuietTactic
import Derived.BigQuiet
import Derived.Sort.QuietIn
import Derived.Stop.RegionWithIn
import Derived.OwnWalkIn
import Derived.TacticsInMore
import Derived.LoopNIn
import Derived.LoopIn
import Derived.Sort.LoopGhostIn
import Derived.Test.YtfkcdnaghndgfaaGreatDoorQBE
import Derived.Test.YtfkcdnaghndgfaaGreatDoorQBG
import Derived.Test.YtfkcdnaghndgfaaGreatDoorQBH
import Derived.Test.YtfkcdnaghndgfaaGreatDoorQAO
import Derived.Test.YtfkcdnaghndgfaaGreatDoorQBO
import Derived.Test.YtfkcdnaghndgfaaGreatDoorQBS
set_option linter.unusedVariables false
set_option linter.unusedSimpArgs false
set_option linter.unusedSectionVars false
namespace Go.Proofs.YtfkcdnaghndgfaaGreatDoor
open Go.RowKit
attribute [local go_sem] Oper.semAt_some
theorem ze9 (a:Option Addr) (n c:Nat) (w:World):Calls Tryz.prog 75 #[.slice a n c] w fun e w' =>
 e = .returned (.func (.func 118) #[] #[.pointer (some ⟨w.heap.size,0,none⟩)])∧w'=w.alloc (.cells #[.slice a n c] 70):=by
 go_enter Tryz.func75,Tryz.ntmps75
 go_wp2
 go_ret
 exact ⟨rfl,rfl⟩
def zX (n:Nat):Nat:=if n=0 then 1 else (n+7999)/8000
def zgk (g o n cap q:Nat):Array Value := #[.slice (some ⟨g,o+24000*q,none⟩) (min (n-8000*q) 8000) (cap-8000*q),.bool (decide (q+1=zX n))]
theorem jG (q:Nat):List.range (q+1)=List.range q++[q]:=List.range_succ
theorem zeu {a b:Nat} (h:a≤b):List.range a <+: List.range b:=by
 induction h with
 | refl=>exact List.prefix_refl _
 | step _ ih=>exact ih.trans ⟨_,(jG _).symm⟩
set_option maxRecDepth 100000 in
set_option maxHeartbeats 2000000 in
theorem zbz (Bs g o n cap:Nat) (w:World) (hB:Blk w Bs [.slice (some ⟨g,o,none⟩) n cap] 70) (hn:n≤1000000) (hc:n≤cap) (hcm:cap≤9223372036854775807) :
 SeqN Tryz.prog 118 #[.pointer (some ⟨Bs,0,none⟩)] (fun q:Nat=>zgk g o n cap q) [Bs] [Bs] (fun xs=>xs=List.range (zX n)) (fun pre=>pre <+: List.range (zX n)) (fun pre q=>pre=List.range q∧q<zX n) w:=by
 intro l J Jx W hU hz hJ hJx hY h0
 have b1:Blk W Bs [.slice (some ⟨g,o,none⟩) n cap] 70:=hB.upd hU (by simp)
 have HJ:=Lib.hid hJ
 have HY:=Lib.hid hY
 have HJ0:=Lib.hid h0
 clear hJ hY h0 hJx hU hz hB
 have HB:=Lib.hid b1
 clear b1
 refine callsIn_of_wp Tryz.func118 rfl trivial ?_ rfl
 simp only [Tryz.ntmps118,List.size_toArray,List.length_cons,List.length_nil,Nat.reduceAdd,Nat.reduceSub,Array.replicate_succ,Array.replicate_zero,List.push_toArray,List.append_toArray,List.nil_append,List.cons_append]
 obtain ⟨R,hR⟩ : ∃ R,zX n=R:=⟨_,rfl⟩
 have HR:=Lib.hid hR
 rw [hR] at HY ⊢
 have hRp:0<R:=by rw [← hR]; unfold zX; split<;>omega
 clear hR
 gi_wp2
 gi_loopg [] R (fun gg wr => ∃ q:Nat,q<R∧gg=R-q∧Hid (8000*q≤n)∧Hid (J (List.range q) wr)∧Hid (Blk wr Bs [.slice (some ⟨g,o+24000*q,none⟩) (n-8000*q) (cap-8000*q)] 70))
 case atStart=>exact ⟨0,hRp,rfl,Lib.hid (by omega),HJ0,HB⟩
 case round =>
  obtain ⟨q,hq,rfl,HQ,HJq,HBq⟩:=hrel
  clear HB HJ0
  have c1:=HBq.out.cell 0 rfl
  have HRV:Hid (zgk g o n cap q = #[.slice (some ⟨g,o+24000*q,none⟩) (min (n-8000*q) 8000) (cap-8000*q),.bool (decide (q+1=R))]):=Lib.hid (by unfold zgk; rw [HR.out])
  have HQ2:Hid (8000*q≤n∧n≤cap∧(q+1=R↔n-8000*q≤8000)∧cap≤9223372036854775807):=Lib.hid ⟨HQ.out,hc,by have h1:=HR.out; have:=HQ.out; unfold zX at h1; split at h1<;>omega,hcm⟩
  have HN1:Hid ((o+24000*q)+24000=o+24000*(q+1)∧n-8000*q-8000=n-8000*(q+1)∧cap-8000*q-8000=cap-8000*(q+1)):=Lib.hid (by omega)
  obtain ⟨fn,tmps,assign,body,hy,hRd⟩:=HY.out (List.range q) q wr HJq.out ⟨rfl,hq⟩ (by intro k hk; simp at hk; subst hk; exact HBq.out.lt)
  have hmc:n-8000*q≤cap-8000*q:=by omega
  have hm1:=HQ2.out.2.2.1
  have hc1:cap-8000*q≤9223372036854775807:=by omega
  have HQN:Hid (q+1≠R→8000*(q+1)≤n):=Lib.hid (fun h=>by have:=HQ2.out; omega)
  clear HQ2 HQ
  rw [HRV.out] at hy
  generalize n-8000*q=m at *
  generalize cap-8000*q=C at *
  generalize o+24000*q=D at *
  by_cases hl:q+1=R
  · have hm8:=hm1.1 hl
    have hmn:min (m:Int) 8000=(m:Int):=by omega
    rw [decide_eq_true hl,Nat.min_eq_left hm8] at hy
    have hmC:(m:Int)≤(C:Int):=by omega
    have hm0:(0:Int)≤(m:Int):=by omega
    have HL:=Lib.hid hl
    clear hm1 hl
    gi_wp2
    refine hRd.mono ?_
    rintro e W3 (⟨rfl,hJ3,hk3⟩ | ⟨rfl,hJx3⟩)
    · have HJ3:=Lib.hid hJ3
      clear hk3 hJ3 hRd
      gi_wp2
      refine bodyPost_ret (results_none rfl _ _ _) rfl ?_
      exact ⟨⟨_,rfl⟩,.inl ⟨_,by rw [← HL.out,jG],HJ3.out⟩⟩
    · have HJx3:=Lib.hid hJx3
      clear hJx3 hRd
      gi_wp2
      refine bodyPost_ret (results_none rfl _ _ _) rfl ?_
      exact ⟨⟨_,rfl⟩,.inr ⟨_,by rw [← HL.out,jG]; exact List.prefix_refl _,HJx3.out⟩⟩
  · have hm8 : ¬ m≤8000:=fun h=>hl (hm1.2 h)
    have hmn:min (m:Int) 8000=8000:=by omega
    have hne : ¬ (8000:Int)=(m:Int):=by omega
    rw [decide_eq_false hl,Nat.min_eq_right (by omega)] at hy
    have hmC:(8000:Int)≤(C:Int):=by omega
    have hbe:((8000:Int)==(m:Int))=false:=by simp; omega
    have HL:=Lib.hid hl
    have HQL:Hid (q+1<R):=Lib.hid (by omega)
    clear hm1 hl
    gi_wp2
    refine hRd.mono ?_
    rintro e W3 (⟨rfl,hJ3,hk3⟩ | ⟨rfl,hJx3⟩)
    · have HJ3:=Lib.hid hJ3
      have HB5:Hid (Blk W3 Bs [.slice (some ⟨g,D,none⟩) m C] 70):=Lib.hid ((hk3.2 Bs (by simp)).trans HBq.out)
      have c5:=HB5.out.cell 0 rfl
      have f5:=HB5.out.frz 0
      clear hk3 hJ3 hRd c1
      gi_wp2
      have hB6:=HB5.out.set 0 (.slice (some ⟨g,D+24000,none⟩) (m-8000) (C-8000))
      simp only [List.set_cons_zero] at hB6
      have hO6:Own2 [Bs] W3 (W3.setCell ⟨Bs,0,none⟩ (.slice (some ⟨g,D+24000,none⟩) (m-8000) (C-8000))) :=
       Kr (fq:=[Bs]) ((Upd.refl [Bs] W3).setCell (p:=⟨Bs,0,none⟩) (.inl (by simp)) _) (fun k hk=>hk) (fun k hk=>by simp at hk; subst hk; exact HB5.out.cellsOnly)
      have hJ6:=HJ.out (List.range (q+1)) W3 _ (by rw [jG]; exact HJ3.out) hO6
      rw [HN1.out.1,HN1.out.2.1,HN1.out.2.2] at hB6 hJ6 ⊢
      have HB6:=Lib.hid hB6
      have HJ6:=Lib.hid hJ6
      clear hB6 hJ6 hO6
      gi_roundg (R-(q+1))
      all_goals first
       | (have:=HQL.out; omega)
       | exact ⟨q+1,HQL.out,rfl,Lib.hid (HQN.out HL.out),HJ6,HB6⟩
    · have HJx3:=Lib.hid hJx3
      clear hJx3 hRd
      gi_wp2
      refine bodyPost_ret (results_none rfl _ _ _) rfl ?_
      exact ⟨⟨_,rfl⟩,.inr ⟨_,by rw [← jG]; exact zeu (Nat.le_of_lt HQL.out),HJx3.out⟩⟩
def zcA (a:Option Addr) (n cap q:Nat):Array Value := #[.slice (a.map fun p=>p.add (24000*q)) (min (n-8000*q) 8000) (cap-8000*q),.bool (decide (q+1=zX n))]
theorem zeD:zcA none 0 0 0 = #[.slice none 0 0,.bool true]:=by unfold zcA zX; simp
theorem zdN (g o n cap q:Nat):zcA (some ⟨g,o,none⟩) n cap q=zgk g o n cap q:=by unfold zcA zgk; simp only [Option.map_some]; first | rfl | rw [kx]
set_option maxRecDepth 100000 in
set_option maxHeartbeats 2000000 in
theorem zb3 (Bs:Nat) (w:World) (hB:Blk w Bs [.slice none 0 0] 70) :
 SeqN Tryz.prog 118 #[.pointer (some ⟨Bs,0,none⟩)] (fun q:Nat=>zcA none 0 0 q) [Bs] [Bs] (fun xs=>xs=List.range (1)) (fun pre=>pre <+: List.range (1)) (fun pre q=>pre=List.range q∧q<1) w:=by
 intro l J Jx W hU hz hJ hJx hY h0
 have b1:Blk W Bs [.slice none 0 0] 70:=hB.upd hU (by simp)
 have HJ:=Lib.hid hJ
 have HY:=Lib.hid hY
 have HJ0:=Lib.hid h0
 clear hJ hY h0 hJx hU hz hB
 have HB:=Lib.hid b1
 clear b1
 refine callsIn_of_wp Tryz.func118 rfl trivial ?_ rfl
 simp only [Tryz.ntmps118,List.size_toArray,List.length_cons,List.length_nil,Nat.reduceAdd,Nat.reduceSub,Array.replicate_succ,Array.replicate_zero,List.push_toArray,List.append_toArray,List.nil_append,List.cons_append]
 gi_wp2
 gi_loopg [] 1 (fun gg wr=>gg=1∧Hid (J [] wr)∧Hid (Blk wr Bs [.slice none 0 0] 70))
 case atStart=>exact ⟨rfl,HJ0,HB⟩
 case round =>
  obtain ⟨rfl,HJq,HBq⟩:=hrel
  clear HB HJ0
  have c1:=HBq.out.cell 0 rfl
  obtain ⟨fn,tmps,assign,body,hy,hRd⟩:=HY.out [] 0 wr HJq.out ⟨rfl,by omega⟩ (by intro k hk; simp at hk; subst hk; exact HBq.out.lt)
  rw [zeD] at hy
  have hm0:min (0:Int) 8000=0:=by decide
  gi_wp2
  refine hRd.mono ?_
  rintro e W3 (⟨rfl,hJ3,hk3⟩ | ⟨rfl,hJx3⟩)
  · have HJ3:=Lib.hid hJ3
    clear hk3 hJ3 hRd
    gi_wp2
    refine bodyPost_ret (results_none rfl _ _ _) rfl ?_
    exact ⟨⟨_,rfl⟩,.inl ⟨_,rfl,HJ3.out⟩⟩
  · have HJx3:=Lib.hid hJx3
    clear hJx3 hRd
    gi_wp2
    refine bodyPost_ret (results_none rfl _ _ _) rfl ?_
    exact ⟨⟨_,rfl⟩,.inr ⟨_,List.prefix_refl _,HJx3.out⟩⟩
theorem zbo (Bs:Nat) (a:Option Addr) (n cap:Nat) (w:World) (ha:(a=none∧n=0∧cap=0) ∨ ∃ g o,a=some ⟨g,o,none⟩) (hB:Blk w Bs [.slice a n cap] 70) (hn:n≤1000000) (hc:n≤cap) (hcm:cap≤9223372036854775807) :
 SeqN Tryz.prog 118 #[.pointer (some ⟨Bs,0,none⟩)] (fun q:Nat=>zcA a n cap q) [Bs] [Bs] (fun xs=>xs=List.range (zX n)) (fun pre=>pre <+: List.range (zX n)) (fun pre q=>pre=List.range q∧q<zX n) w:=by
 rcases ha with ⟨rfl,rfl,rfl⟩ | ⟨g,o,rfl⟩
 · exact zb3 Bs w hB
 · have h:=zbz Bs g o n cap w hB hn hc hcm
   simp only [← zdN] at h
   exact h
end Go.Proofs.YtfkcdnaghndgfaaGreatDoor
namespace Go.Proofs.YtfkcdnaghndgfaaGreatDoor
open Go.RowKit Go.Shelf
attribute [local go_sem] Oper.semAt_some
def rowL (l:List Tok) (q:Nat):List Tok:=(l.drop (8000*q)).take 8000
theorem Qq (l:List Tok) (q:Nat):(rowL l q).length=min (l.length-8000*q) 8000:=by unfold rowL; rw [List.length_take,List.length_drop]; omega
theorem zhw (l:List Tok) (q i:Nat) (h:i<(rowL l q).length) : ∃ h2:8000*q+i<l.length,(rowL l q)[i]=l[8000*q+i]:=by
 have h1:=h
 rw [Qq] at h1
 refine ⟨by omega,?_⟩
 simp only [rowL,List.getElem_take,List.getElem_drop]
theorem TokIn.rowL {w:World} {a:Option Addr} {n:Nat} {l:List Tok} (h:TokIn w a n l) (q:Nat):TokIn w (a.map fun p=>p.add (24000*q)) (min (n-8000*q) 8000) (rowL l q) :=
 ⟨by rw [Qq,h.len],fun i hi=>by
  obtain ⟨h2,e⟩:=zhw l q i hi
  obtain ⟨b,off,rfl,⟨c1,c2,c3⟩,r⟩:=h.cell (8000*q+i) h2
  rw [e]
  refine ⟨b,off+24000*q,by simp only [Option.map_some]; rw [kx],⟨?_,?_,?_⟩,r⟩
  · rw [show off+24000*q+i*3=off+(8000*q+i)*3 by omega]; exact c1
  · rw [show off+24000*q+i*3+1=off+(8000*q+i)*3+1 by omega]; exact c2
  · rw [show off+24000*q+i*3+2=off+(8000*q+i)*3+2 by omega]; exact c3⟩
end Go.Proofs.YtfkcdnaghndgfaaGreatDoor
namespace Go.Proofs.YtfkcdnaghndgfaaGreatDoor
open Go.RowKit
attribute [local go_sem] Oper.semAt_some
def bst (A B C:Int) (i:Nat):Nat :=
 if i≤1 then 0 else if i=2 then (if B<A then 1 else 0) else if C<(if B<A then B else A) then 2 else if B<A then 1 else 0
def at3 (A B C:Int) (i:Nat):Int:=if i=0 then A else if i=1 then B else C
theorem VN (A B C:Int) (i:Nat):bst A B C i<3:=by
 unfold bst
 (repeat' split)<;>omega
theorem zeJ (A B C:Int) (k:Nat) (hk:k<3):at3 A B C (bst A B C 3)≤at3 A B C k∧(k<bst A B C 3→at3 A B C (bst A B C 3)<at3 A B C k):=by
 obtain rfl | rfl | rfl:k=0∨k=1∨k=2:=by omega
 all_goals (unfold bst at3; simp only [show ¬ (3:Nat)≤1 by omega,show ¬ (3:Nat)=2 by omega,if_false]; by_cases h1:B<A<;>by_cases h2:C<B<;>by_cases h3:C<A<;>simp [h1,h2,h3]<;>omega)
def ziY (l:List Tok) (w:World) (e:Ending) (w':World):Prop := ∃ (lits backs lens:List Nat) (steps:List StpD) (t:Nat),MadeO l lits backs steps lens∧ToldO lens t ∧
 e = .returned (.int .i64 (bst ((35+8*zl l:Nat):Int) (3+yT (ints (yU 4)) (ints (List.replicate 32 5)) (zh l)) (((3+(14+3*t+szT lens steps):Nat):Int)+yT (ints lits) (ints backs) (zh l)) 3:Nat))∧Upd [] w w'
set_option maxRecDepth 100000 in
set_option maxHeartbeats 3200000 in
theorem ze6 (l:List Tok) (a:Option Addr) (n cap:Nat) (w:World) (hI:TokIn w a n l) (hn:n≤100000) (hok : ∀ t∈l,zo t) :
 Calls Tryz.prog 43 #[.slice a n cap] w fun e w'=>ziY l w e w':=by
 have HS:=Lib.hid (zd2 l a n cap w hI hn hok)
 clear hI hok
 go_enter Tryz.func43,Tryz.ntmps43
 go_wp2_with fail
 refine HS.out.mono ?_
 rintro e w1 ⟨lits,backs,lens,steps,t,hM,hT,rfl,hU⟩
 have HM:=Lib.hid hM
 have HT:=Lib.hid hT
 have HU1:=Lib.hid hU
 obtain ⟨X,hX⟩ : ∃ X,X=((35+8*zl l:Nat):Int):=⟨_,rfl⟩
 obtain ⟨Y,hY⟩ : ∃ X,X=(3+yT (ints (yU 4)) (ints (List.replicate 32 5)) (zh l)):=⟨_,rfl⟩
 obtain ⟨Z,hZ⟩ : ∃ X,X=(((3+(14+3*t+szT lens steps):Nat):Int)+yT (ints lits) (ints backs) (zh l)):=⟨_,rfl⟩
 rw [← hX,← hY,← hZ]
 have HX:=Lib.hid hX
 have HY:=Lib.hid hY
 have HZ:=Lib.hid hZ
 clear hM hT hU hX hY hZ HS
 have HIX:Hid (∀ w (i:Nat),i<3→(Instr.index 132 (.agg #[.int .i64 X,.int .i64 Y,.int .i64 Z]) (.int .i64 (i:Nat))).run Tryz.prog w = .ok (.int .i64 (at3 X Y Z i)) w):=Lib.hid (fun w i hi=>by
  obtain rfl | rfl | rfl:i=0∨i=1∨i=2:=by omega
  all_goals exact Qf (P:=Tryz.prog) 132 3 3 Tryz.underlying132 .i64 Tryz.underlying3 (by kernel_rfl) [.int .i64 X,.int .i64 Y,.int .i64 Z] rfl .i64 _ (by omega) w)
 go_simp
 go_wp2
 have HB:=Lib.hid (Blk.new w1 [.int .i64 X,.int .i64 Y,.int .i64 Z] 132)
 have HU2:=Lib.hid (HU1.out.alloc (.cells #[.int .i64 X,.int .i64 Y,.int .i64 Z] 132))
 change Code.wp _ _ _ _ (w1.alloc (.cells #[.int .i64 X,.int .i64 Y,.int .i64 Z] 132))
 generalize w1.alloc (.cells #[.int .i64 X,.int .i64 Y,.int .i64 Z] 132)=w2 at *
 generalize w1.heap.size=b at *
 go_loopg [2,9] 3 (fun gg s2 s9 wr => ∃ i:Nat,i≤3∧gg=3-i∧s9 = .int .i64 (i:Nat)∧s2 = .int .i64 (bst X Y Z i:Nat)∧wr=w2)
 case atStart=>exact ⟨0,by omega,by omega,rfl,rfl,rfl⟩
 case round =>
  obtain ⟨i,hi3,rfl,rfl,rfl,hwr⟩:=hrel
  subst hwr
  have hbl:=VN X Y Z i
  by_cases hc:i<3
  · have hix:=HIX.out wr i hc
    have hw1:IntKind.i64.wrap ((i:Int)+1)=((i+1:Nat):Int):=by rw [IntWalk.i64_in _ (by omega)]; rfl
    have HN:Hid (bst X Y Z (i+1)=if at3 X Y Z i<at3 X Y Z (bst X Y Z i) then i else bst X Y Z i):=Lib.hid (by
     obtain rfl | rfl | rfl:i=0∨i=1∨i=2:=by omega
     · simp [bst,at3]
     · by_cases h1:Y<X<;>simp [bst,at3,h1]
     · by_cases h1:Y<X<;>by_cases h2:Z<Y<;>by_cases h3:Z<X<;>simp [bst,at3,h1,h2,h3])
    have hcz:(i:Int)<3:=by omega
    generalize bst X Y Z i=K at *
    have hKc:wr.cell? ⟨b,K,none⟩=some (.int .i64 (at3 X Y Z K)):=by
     obtain rfl | rfl | rfl:K=0∨K=1∨K=2:=by omega
     all_goals exact HB.out.cell _ rfl
    generalize at3 X Y Z i=V at *
    generalize at3 X Y Z K=U at *
    go_wp2
    all_goals go_roundg (3-(i+1))
    · exact ⟨i+1,by omega,by first | rfl | omega,by first | rfl | go_num,by rw [HN.out,if_pos (by omega)],rfl⟩
    · omega
    · exact ⟨i+1,by omega,by first | rfl | omega,by first | rfl | go_num,by rw [HN.out,if_neg (by omega)],rfl⟩
    · omega
  · obtain rfl:i=3:=by omega
    go_wp2
    go_ret
    exact ⟨lits,backs,lens,steps,t,HM.out,HT.out,by rw [HX.out,HY.out,HZ.out]; rfl,HU2.out⟩
set_option maxRecDepth 100000 in
set_option maxHeartbeats 3200000 in
theorem zdt (l:List Tok) (a:Option Addr) (n cap:Nat) (w:World) (hI:TokIn w a n l) (hn:n≤100000) (hok : ∀ t∈l,zo t) :
 Calls Tryz.prog 76 #[.slice a n cap] w fun e w'=>e = .returned (.int .i64 (zl l:Nat))∧Upd [] w w':=by
 have hln:=hI.len
 have HEL:=Lib.hid (fun i=>QU (l.take i) (fun t h=>hok t (List.mem_of_mem_take h)))
 have HOK:=Lib.hid hok
 have HI:=Lib.hid hI
 have HLN:=Lib.hid hln
 clear hI hok hln
 go_enter Tryz.func76,Tryz.ntmps76
 go_wp2
 go_loopg [2,7] 200000 (fun gg s2 s7 wr => ∃ i:Nat,i≤n∧gg=200000-i∧s7 = .int .i64 (i:Nat)∧s2 = .int .i64 (zl (l.take i):Nat)∧Hid (Upd [] w wr))
 case atStart=>exact ⟨0,by omega,by omega,rfl,rfl,Lib.hid (Upd.refl _ _)⟩
 case round =>
  obtain ⟨i,hin,rfl,rfl,rfl,HU⟩:=hrel
  have hms:zl (l.take i)≤258*i:=Nat.le_trans (HEL.out i) (Nat.mul_le_mul_left _ (List.length_take_le _ _))
  by_cases hc:i<n
  · have hcz:(i:Int)<(n:Int):=by omega
    have hil:i<l.length:=by rw [HLN.out]; exact hc
    have hw1:IntKind.i64.wrap ((i:Int)+1)=((i+1:Nat):Int):=by rw [IntWalk.i64_in _ (by omega)]; rfl
    obtain ⟨b,off,rfl,⟨hc1,hc2,hc3⟩,r1,r2,r3⟩:=(HI.out.pure HU.out).cell i hil
    have HSM:Hid (zl (l.take (i+1))=zl (l.take i)+yH l[i]):=Lib.hid (by rw [List.take_succ_eq_append_getElem hil,ZG])
    have htl:=Zg (HOK.out _ (List.getElem_mem hil))
    have hmx:max 1 l[i].long=(yH l[i]:Int):=by unfold yH; split<;>omega
    generalize l[i]=t at *
    generalize yH t=mt at *
    obtain ⟨tb,tl,tk⟩:=t
    dsimp only at hc1 hc2 hc3 r1 r2 r3 hmx
    have HU4:=Lib.hid (HU.out.alloc (.cells #[.int .u8 (tb:Nat),.int .i64 tl,.int .i64 tk] 130))
    generalize zl (l.take i)=ms at *
    have hws:IntKind.i64.wrap ((ms:Int)+(mt:Int))=((ms+mt:Nat):Int):=by rw [IntWalk.i64_in _ (by omega)]; rfl
    clear hil
    go_wp2
    go_roundg (200000-(i+1))
    · exact ⟨i+1,by omega,by first | rfl | omega,by first | rfl | go_num,by rw [HSM.out]; first | rfl | go_num,HU4⟩
    · omega
  · have hcz : ¬ (i:Int)<(n:Int):=by omega
    obtain rfl:i=n:=by omega
    have htk:l.take i=l:=List.take_of_length_le (by rw [HLN.out]; exact Nat.le_refl _)
    rw [htk] at hms ⊢
    clear htk
    go_wp2
    go_ret
    exact ⟨rfl,HU.out⟩
end Go.Proofs.YtfkcdnaghndgfaaGreatDoor
namespace Go.Proofs.YtfkcdnaghndgfaaGreatDoor
open Go.RowKit
theorem zf0 {L M:List Bool} {l:List Tok} {k:Nat} {last:Bool} (hB:qh L l k last M) (hok : ∀ t∈l,zo t) (hn:l.length≤100000):M.length≤L.length+10000000:=by
 have hml:(zh l).1.length=286∧(zh l).2.length=30:=by have:=xt l l.length (Nat.le_refl _); rw [List.take_length] at this; exact ⟨this.la,this.lb⟩
 rcases hB with ⟨h,e⟩ | ⟨h,e⟩ | ⟨h,lits',backs',steps',lens',t',hM',hT',e⟩
 · have hbl:(zQ l).length=l.length:=List.length_map _
   rw [e]
   unfold xQ
   rw [List.length_append,List.length_append,List.length_append,zU,kt,ze,ze,zK,hbl]
   omega
 · rw [e,List.length_append,kt]
   have:=kJ (yU 4) (List.replicate 32 5) l
   have h2:=jJ _ _ (yK vC.1) (yK vC.2.1) l hn hok
   have h3:=Yg _ _ vC.1 vC.2.1 l hn hok
   omega
 · obtain ⟨_,_,_,_,x15,y15,hsy,hl7,_,hsl⟩:=hM'.bd hml
   rw [e,List.length_append,List.length_append,kt]
   have h1:=zc2 lits'.length backs'.length t' lens' steps' hT'.hi (fun x hx=>by have:=hl7 x hx; omega) (fun s hs=>(hsy s hs).2)
   have:=kJ lits' backs' l
   have h2:=jJ _ _ (yK x15) (yK y15) l hn hok
   have h3:=Yg _ _ x15 y15 l hn hok
   omega
def zY (l:List Tok) (q:Nat):Nat:=zl (l.take (8000*q))
theorem kq (l r:List Tok):zl (l++r)=zl l+zl r:=by unfold zl; rw [List.map_append,List.sum_append]
theorem kV (l:List Tok) (q:Nat):zY l (q+1)=zY l q+zl (rowL l q):=by
 unfold zY rowL
 rw [← kq,show 8000*(q+1)=8000*q+8000 by omega,List.take_add]
theorem zfU (l:List Tok) (q:Nat):zY l q≤zl l:=by
 unfold zY
 have h:zl l=zl (l.take (8000*q))+zl (l.drop (8000*q)):=by rw [← kq,List.take_append_drop]
 omega
def kj (bs:List Nat) (l:List Tok) (q k:Nat):List Tok:=if k=0 then yR ((bs.drop (zY l q)).take (zl (rowL l q))) else rowL l q
inductive RT (bs:List Nat) (l:List Tok) (KK:List Tok→Nat→Prop):Nat→List Bool→Prop
 | zero:RT bs l KK 0 []
 | succ {q k:Nat} {L M:List Bool}:RT bs l KK q L→KK (rowL l q) k→k≤2→qh L (kj bs l q k) k (decide (q+1=zX l.length)) M→RT bs l KK (q+1) M
theorem Qp {l:List Tok} (hok : ∀ t∈l,zo t) (q:Nat) : ∀ t∈rowL l q,zo t:=fun t ht=>hok t (List.mem_of_mem_drop (List.mem_of_mem_take ht))
theorem QL {bs:List Nat} (h : ∀ b∈bs,b<256) : ∀ t∈yR bs,zo t:=fun t ht=>by
 obtain ⟨b,hb,rfl⟩:=List.mem_map.1 ht
 exact .inl ⟨rfl,rfl,h b hb⟩
theorem vH : ∀ b:List Nat,xF (yR b)=0
 | []=>rfl
 | x::b=>by
   have:=vH b
   show xF (⟨x,0,0⟩::yR b)=0
   simp [xF] at this ⊢
   exact this
theorem zcX {bs:List Nat} {l:List Tok} (hok : ∀ t∈l,zo t) (hb : ∀ b∈bs,b<256) (q k:Nat) : ∀ t∈kj bs l q k,zo t:=by
 unfold kj
 split
 · exact QL (fun b h=>hb b (List.mem_of_mem_drop (List.mem_of_mem_take h)))
 · exact Qp hok q
theorem WI {bs:List Nat} {l:List Tok} (hbs:bs.length≤65000) (q k:Nat):(kj bs l q k).length≤65000:=by
 unfold kj yR
 split
 · rw [List.length_map,List.length_take,List.length_drop]; omega
 · rw [Qq]; omega
theorem RT.up {bs:List Nat} {l:List Tok} {KK:List Tok→Nat→Prop} (hok : ∀ t∈l,zo t) (hb : ∀ b∈bs,b<256) (hbs:bs.length≤65000) : ∀ {q:Nat} {L:List Bool},RT bs l KK q L→L.length≤10000000*q
 | _,_,.zero=>by simp
 | _,_,.succ h _ _ hB=>by
   have h1:=h.up hok hb hbs
   have h2:=zf0 hB (zcX hok hb _ _) (Nat.le_trans (WI hbs _ _) (by omega))
   omega
theorem xg : ∀ (A B:List Tok) (s:List Nat),zJ (A++B) s=(zJ A s).bind (zJ B)
 | [],B,s=>rfl
 | t::A,B,s=>by
   rw [List.cons_append,yw,yw]
   split
   · split
     · rfl
     · exact xg A B _
   · split
     · rfl
     · exact xg A B _
theorem VB (s:List Nat) (back:Nat) : ∀ k,s <+: je s back k
 | 0=>List.prefix_refl _
 | k+1=>by rw [vj]; exact (VB s back k).trans (List.prefix_append _ _)
theorem QM : ∀ (A:List Tok) (s r:List Nat),zJ A s=some r→s <+: r
 | [],s,r,h=>by
   have e:s=r:=by simpa [zJ] using h
   rw [e]; exact List.prefix_refl _
 | t::A,s,r,h=>by
   rw [yw] at h
   split at h
   · split at h
     · cases h
     · exact (List.prefix_append _ _).trans (QM A _ r h)
   · split at h
     · cases h
     · exact (VB _ _ _).trans (QM A _ r h)
theorem JK : ∀ (b s:List Nat),s.length+b.length≤65000→zJ (yR b) s=some (s++b)
 | [],s,_=>by rw [List.append_nil]; rfl
 | x::b,s,h=>by
   have e:yR (x::b)=⟨x,0,0⟩::yR b:=rfl
   rw [List.length_cons] at h
   rw [e,yw,if_pos rfl,if_neg (by rintro (h | h); exact h rfl; omega),JK b (s++[x]) (by rw [List.length_append,List.length_singleton]; omega),List.append_assoc]
   rfl
theorem zaA {l:List Tok} {bs:List Nat} (hok : ∀ t∈l,zo t) (he:zJ l []=some bs) (m:Nat):zJ (l.take m) []=some (bs.take (zl (l.take m))):=by
 have h:=he
 rw [← List.take_append_drop m l,xg] at h
 cases hr:zJ (l.take m) [] with
 | none=>rw [hr] at h; cases h
 | some r =>
   rw [hr] at h
   have hp:=QM _ _ _ h
   have hl:=jH (l.take m) [] r (fun t ht=>hok t (List.mem_of_mem_take ht)) hr
   rw [List.length_nil,Nat.zero_add] at hl
   rw [← hl,← List.prefix_iff_eq_take.1 hp]
theorem zhF {l:List Tok} {bs:List Nat} (hok : ∀ t∈l,zo t) (he:zJ l []=some bs) (hbs:bs.length≤65000) (q k:Nat):zJ (kj bs l q k) (bs.take (zY l q))=some (bs.take (zY l (q+1))):=by
 unfold kj
 split
 · rw [JK _ _ (by rw [List.length_take,List.length_take,List.length_drop]; omega),kV,List.take_add]
 · have h:=zaA hok he (8000*(q+1))
   rw [show 8000*(q+1)=8000*q+8000 by omega,List.take_add,xg,zaA hok he (8000*q)] at h
   rw [show zY l (q+1)=zl (l.take (8000*q)++(l.drop (8000*q)).take 8000) by unfold zY; rw [show 8000*(q+1)=8000*q+8000 by omega,List.take_add]]
   exact h
end Go.Proofs.YtfkcdnaghndgfaaGreatDoor
namespace Go.Proofs.YtfkcdnaghndgfaaGreatDoor
open Go.RowKit
theorem qO {l:List Tok} {bs:List Nat} {i:Nat} (he:zJ l []=some (bs.take i)) (hi:i<bs.length) (hb:bs.length≤65000):zJ (l++[⟨bs[i],0,0⟩]) []=some (bs.take (i+1)):=by
 rw [xg,he]
 show zJ [⟨bs[i],0,0⟩] (bs.take i)=_
 rw [yw,if_pos rfl,if_neg (by rw [List.length_take]; rintro (h | h); exact h rfl; omega),List.take_succ_eq_append_getElem hi]
 rfl
theorem SameB.less {S:ByteArray} {i b m m':Nat} (h:SameB S i b m) (hm:m'≤m):SameB S i b m':=by
 obtain ⟨x1,x2,x3,x4,x5⟩:=h
 exact ⟨x1,x2,by omega,by omega,fun k hk=>x5 k (by omega)⟩
theorem Xr (S:ByteArray) (i b:Nat) : ∀ m,SameB S i b m→je ((zc S).take i) b m=(zc S).take (i+m)
 | 0,_=>rfl
 | m+1,h=>by
   have hl:=zd S
   obtain ⟨x1,x2,x3,x4,x5⟩:=h
   have e:=x5 m (by omega) (by omega) (by omega)
   rw [vj,Xr S i b m (SameB.less ⟨x1,x2,x3,x4,x5⟩ (by omega))]
   have hlt:((zc S).take (i+m)).length=i+m:=by rw [List.length_take]; omega
   have hi:i+m<(zc S).length:=by omega
   rw [hlt,← Nat.add_assoc,List.take_succ_eq_append_getElem hi]
   congr 2
   rw [List.getD_eq_getElem?_getD,List.getElem?_take,if_pos (by omega),List.getElem?_eq_getElem (by omega),Option.getD_some,yf S _ (by omega),yf S _ (by omega),e]
theorem qK {l:List Tok} {S:ByteArray} {i b m:Nat} (he:zJ l []=some ((zc S).take i)) (hS:S.size≤65000) (hb:b≤32768) (hm:3≤m) (h:SameB S i b m):zJ (l++[⟨0,(m:Int),(b:Int)⟩]) []=some ((zc S).take (i+m)):=by
 have hl:=zd S
 have hc:=Xr S i b m h
 obtain ⟨x1,x2,x3,x4,x5⟩:=h
 have hlt:((zc S).take i).length=i:=by rw [List.length_take]; omega
 rw [xg,he]
 show zJ [⟨0,(m:Int),(b:Int)⟩] ((zc S).take i)=_
 rw [yw,if_neg (by show ¬ (m:Int)=0; omega),if_neg (by unfold Js; rw [hlt]; dsimp only; omega)]
 show some _=_
 rw [Int.toNat_natCast,Int.toNat_natCast,hc]
theorem ZV {x:Nat} (h:x<256):zo ⟨x,0,0⟩ := .inl ⟨rfl,rfl,h⟩
theorem ZT {S:ByteArray} {i b m:Nat} (hb:b≤32768) (hm:3≤m) (h:SameB S i b m):zo ⟨0,(m:Int),(b:Int)⟩:=by
 obtain ⟨x1,x2,x3,x4,x5⟩:=h
 exact .inr ⟨rfl,by show (3:Int)≤m; omega,by show (m:Int)≤258; omega,by show (1:Int)≤b; omega,by show (b:Int)≤32768; omega⟩
theorem zhG {l:List Tok} {t:Tok} (h : ∀ t∈l,zo t) (ht:zo t) : ∀ u∈l++[t],zo u:=fun u hu=>by
 rcases List.mem_append.1 hu with h' | h'
 · exact h u h'
 · simp at h'; subst h'; exact ht
structure MatI (S:ByteArray) (w1:World) (fb mb nb:Nat) (D:Int) (p i:Nat) (v o:Value) (n:Nat) (l:List Tok) (W:World):Prop where
 fin:FinAt W fb mb S v p D
 row:Row W 130 3 o n (tcs l)
 len:l.length=n
 ok : ∀ t∈l,zo t
 exp:zJ l []=some ((zc S).take i)
 le:n≤i
 vo : ∀ k,v.ownBlock=some k→w1.heap.size≤k
 oo : ∀ k,o.ownBlock=some k→w1.heap.size≤k
 bl:fb<w1.heap.size∧mb<w1.heap.size∧nb<w1.heap.size∧nb≠fb∧nb≠mb
 up:Upd [fb,mb,nb] w1 W
theorem Row.ne_cells {w:World} {e e':TypeId} {size n:Nat} {v:Value} {xs cs:List Value} {b:Nat} (h:Row w e size v n xs) (hB:Blk w b cs e') (ht:e≠e'):v.ownBlock≠some b:=fun hk=>by
 rcases h.2 with ⟨rfl,_⟩ | ⟨g,cap,cur,rfl,hb,hh,_⟩
 · simp [Value.ownBlock] at hk
 · simp [Value.ownBlock] at hk
   subst hk
   unfold Blk at hB
   rw [hh] at hB
   simp at hB
   exact ht hB.2
theorem Row.ne_cells2 {w:World} {e e':TypeId} {size size' n n':Nat} {v v':Value} {xs xs':List Value} (h:Row w e size v n xs) (h':Row w e' size' v' n' xs') (ht:e≠e') : ∀ k,v.ownBlock=some k→k∉v'.ownBlock.toList:=fun k hk hm=>by
 have hm':v'.ownBlock=some k:=by simpa using hm
 rcases h.2 with ⟨rfl,_⟩ | ⟨g,cap,cur,rfl,hb,hh,_⟩
 · simp [Value.ownBlock] at hk
 · rcases h'.2 with ⟨rfl,_⟩ | ⟨g2,cap2,cur2,rfl,hb2,hh2,_⟩
   · simp [Value.ownBlock] at hm'
   · simp [Value.ownBlock] at hk hm'
     subst hk hm'
     rw [hh] at hh2
     simp at hh2
     exact ht hh2.2
theorem FinAt.row {W:World} {fb mb:Nat} {S:ByteArray} {v:Value} {p:Nat} {D:Int} (h:FinAt W fb mb S v p D) : ∃ xs:List Int,Row W 3 1 v p (zvs xs):=by
 obtain ⟨xs,_,_,h⟩:=h.1.2.1
 exact ⟨xs,h⟩
section
variable {S:ByteArray} {w1 W W':World} {fb mb nb:Nat} {D:Int} {p i:Nat} {v o:Value} {n:Nat} {l:List Tok}
theorem MatI.size (h:MatI S w1 fb mb nb D p i v o n l W):w1.heap.size≤W.heap.size:=h.up.size
theorem MatI.pure (h:MatI S w1 fb mb nb D p i v o n l W) (hu:Upd [] W W'):MatI S w1 fb mb nb D p i v o n l W' :=
 ⟨h.fin.pure hu,h.row.upd hu (by simp),h.len,h.ok,h.exp,h.le,h.vo,h.oo,h.bl,h.up.trans hu (fun k hk=>by simp at hk)⟩
theorem MatI.nxt (h:MatI S w1 fb mb nb D p i v o n l W) (hu:Upd [nb] W W'):MatI S w1 fb mb nb D p i v o n l W':=by
 obtain ⟨b1,b2,b3,b4,b5⟩:=h.bl
 exact ⟨h.fin.upd hu (by simpa using b4.symm) (by simpa using b5.symm) (fun k hk hm=>by have:=h.vo k hk; simp at hm; omega),h.row.upd hu (fun k hk hm=>by have:=h.oo k hk; simp at hm; omega),h.len,h.ok,h.exp,h.le,h.vo,h.oo,h.bl,h.up.trans hu (fun k hk => .inl (by simp at hk; simp [hk]))⟩
theorem MatI.tok {tb:Nat} (h:MatI S w1 fb mb nb D p i v o n l W) (hu:Upd [tb] W W') (ht:w1.heap.size≤tb) (ho : ∀ k,o.ownBlock=some k→k≠tb) (hv:v.ownBlock≠some tb):MatI S w1 fb mb nb D p i v o n l W':=by
 obtain ⟨b1,b2,b3,b4,b5⟩:=h.bl
 exact ⟨h.fin.upd hu (by simp; omega) (by simp; omega) (fun k hk hm=>by simp at hm; subst hm; exact hv hk),h.row.upd hu (fun k hk hm=>by simp at hm; exact ho k hk hm),h.len,h.ok,h.exp,h.le,h.vo,h.oo,h.bl,h.up.trans hu (fun k hk => .inr (by simp at hk; omega))⟩
theorem MatI.put {e:Ending} (h:MatI S w1 fb mb nb D p i v o n l W) (hP:zgs W fb mb S v p D e W'):e = .returned (.tuple #[]) ∧ ∃ v',MatI S w1 fb mb nb D (p+1) i v' o n l W'∧Upd (fb::mb::v.ownBlock.toList) W W':=by
 obtain ⟨he,v',hF,hU,hL⟩:=hP
 obtain ⟨b1,b2,b3,b4,b5⟩:=h.bl
 obtain ⟨xs,hv⟩:=h.fin.row
 refine ⟨he,v',⟨hF,h.row.upd hU (fun k hk hm=>?_),h.len,h.ok,h.exp,h.le,fun k hk=>?_,h.oo,h.bl,h.up.trans hU (fun k hk=>?_)⟩,hU⟩
 · have:=h.oo k hk
   simp only [List.mem_cons] at hm
   rcases hm with hm | hm | hm
   · omega
   · omega
   · exact h.row.ne_cells2 hv (by decide) k hk hm
 · rcases hL with e | ⟨g,e,hg⟩
   · exact h.vo k (by rw [← e]; exact hk)
   · rw [hk] at e; cases e; have:=h.size; omega
 · simp only [List.mem_cons] at hk
   rcases hk with rfl | rfl | hk
   · exact .inl (by simp)
   · exact .inl (by simp)
   · exact .inr (h.vo k (by simpa using hk))
theorem MatI.far (h:MatI S w1 fb mb nb D p i v o n l W) {b:Nat} {cs:List Value} (hB:Blk W b cs 130) (hU:Upd (fb::mb::v.ownBlock.toList) W W') (hf:b=nb∨w1.heap.size≤b):Blk W' b cs 130:=by
 obtain ⟨b1,b2,b3,b4,b5⟩:=h.bl
 obtain ⟨xs,hv⟩:=h.fin.row
 refine hB.upd hU (fun hm=>?_)
 simp only [List.mem_cons] at hm
 rcases hm with hm | hm | hm
 · rcases hf with rfl | hf
   · exact b4 hm
   · omega
 · rcases hf with rfl | hf
   · exact b5 hm
   · omega
 · exact hv.ne_cells hB (by decide) (by simpa using hm)
theorem MatI.app {o5:Value} {w5 wa:World} {t:Tok} {i':Nat} (h:MatI S w1 fb mb nb D p i v o n l W) (hA:Upd [] W wa) (hR5:Row w5 130 3 o5 (n+1) (tcs l++t.cs)) (hU5:Upd o.ownBlock.toList wa w5) (hT5:Later wa o o5)
 (ht:zo t) (he:zJ (l++[t]) []=some ((zc S).take i')) (hi:i<i'):MatI S w1 fb mb nb D p i' v o5 (n+1) (l++[t]) w5:=by
 obtain ⟨b1,b2,b3,b4,b5⟩:=h.bl
 have h5:Upd o.ownBlock.toList W w5:=(hA.mono (fun k hk=>by simp at hk)).then hU5
 obtain ⟨xs,hv⟩:=h.fin.row
 refine ⟨h.fin.upd h5 (fun hm=>?_) (fun hm=>?_) (fun k hk hm=>?_),by rw [Xs,Ys]; exact hR5,by rw [List.length_append,h.len]; rfl,zhG h.ok ht,he,by have:=h.le; omega,h.vo,fun k hk=>?_,h.bl,h.up.trans h5 (fun k hk => .inr (h.oo k (by simpa using hk)))⟩
 · have:=h.oo fb (by simpa using hm); omega
 · have:=h.oo mb (by simpa using hm); omega
 · exact hv.ne_cells2 h.row (by decide) k hk hm
 · rcases hT5 with e | ⟨g,e,hg⟩
   · exact h.oo k (by rw [← e]; exact hk)
   · rw [hk] at e; cases e; have:=h.size; have:=hA.size; omega
end
end Go.Proofs.YtfkcdnaghndgfaaGreatDoor
