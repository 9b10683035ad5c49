/- Package lz: best: its walk. -/
import Derived.Carry
import Derived.Test.YtfkcdnaghndgfaaGreatDoorQBG
import Derived.Lib.SliceRun
import Derived.Test.YtfkcdnaghndgfaaGreatDoorQBE
import Derived.Lib.MinMax
import Derived.ArgAppend
import Derived.Test.YtfkcdnaghndgfaaGreatDoorQAC
import Derived.Test.YtfkcdnaghndgfaaGreatDoorQBD
set_option linter.unusedVariables false
set_option linter.unusedSimpArgs false
set_option linter.unusedSectionVars false
namespace Go.Proofs.YtfkcdnaghndgfaaGreatDoor
open Go.RowKit Go.Shelf
attribute [local go_sem] Oper.semAt_some
theorem XN {n l0 id:Nat} {P:Program} {Q:Exit→Act→World→Prop} {a:Act} {w:World} {l:List Oper} (hm:P.follows .mixedOrders=true) (hB:Region.lexB .any l.toArray=true) (hd:kw l.toArray=true)
 (h : ∀ K:Act→World→Prop,(∀ a w,Q .normal a w→K a w)→wpQuiet P l.toArray (fun w' => ∃ n,w'=w.drewN n) (fun a' => ∀ w',(∃ n,w'=w.drewN n)→K a' w') l a):(Code.region id l.toArray true).wpIn (Fence.wide.inRound l0) n P Q a w:=by
 have h':=h (fun a w=>Q .normal a w) fun _ _ h=>h
 simp only [Region.lexB,Bool.and_eq_true] at hB
 have hq:=wpAnyQ_lex (C:=fun w' => ∃ n,w'=w.drewN n) (md := .any) hB.1 l 0 (Array.replicate l.toArray.size false) a (by simp) (by simpa using hB.2) h'
 have hq2:=wpAny_of_quiet (P:=P) (md := .any) (Q:=fun a' => ∀ w',(∃ n,w'=w.drewN n)→Q .normal a' w') (Q':=Exit.then (fun a w=>Q .normal a w) fun _ _ _=>False) (fun a' w' hw' h=>h w' hw') _ _ _ w.drew ⟨1,rfl⟩ hq
 refine wpIn_mono (wpIn_region_any hm (JO ?_ hd _ _ _ _ (by simpa using hq2))) ?_
 · rintro ⟨a,w,h⟩
   exact h
 · intro e a w h
   cases e<;>first | exact h | exact h.elim
def CopyT (S:ByteArray) (i:Nat) (L B:Int):Prop:=(L=0∧B=0) ∨ ∃ m b:Nat,L=(m:Int)∧B=(b:Int)∧1≤m∧b≤32768∧SameB S i b m
theorem CopyT.bd {S:ByteArray} {i:Nat} {L B:Int} (h:CopyT S i L B):0≤L∧L≤258∧0≤B∧B≤32768:=by
 rcases h with ⟨rfl,rfl⟩ | ⟨m,b,rfl,rfl,h1,h2,h3⟩
 · omega
 · have:=h3.2.2.1; omega
def TkB (S:ByteArray) (i tb:Nat) (W:World):Prop := ∃ L B,CopyT S i L B∧Blk W tb [.int .u8 0,.int .i64 L,.int .i64 B] 130
def BeI (S:ByteArray) (fb mb:Nat) (v:Value) (m:Nat) (D:Int) (i:Nat) (w:World) (b2 b3 tb:Nat) (W:World):Prop :=
 TkB S i tb W∧FinAt W fb mb S v m D∧Blk W b2 [.pointer (some ⟨fb,0,none⟩)] 125∧Blk W b3 [.int .i64 (i:Nat)] 3∧Upd [] w W
theorem FinAt.grown {w w':World} {fb mb B:Nat} {S:ByteArray} {v:Value} {m:Nat} {D:Int} {row:Option Nat} (h:FinAt w fb mb S v m D) (hmb:mb<B) (hg:w.grownBy w' row) (hr : ∀ r,row=some r→B≤r ∧ ∃ o:Obj,w.heap[r]? =some o∧o.isCells=false):FinAt w' fb mb S v m D:=by
 obtain ⟨⟨a,⟨xs,c1,c2,c3⟩,d⟩,n,hn,⟨DD,e1,e2⟩⟩:=h
 exact ⟨⟨qg B fb (fun (_:Unit)=>_) _ () w w' row a hg hr,⟨xs,c1,c2,c3.ownF hg hr⟩,d⟩,n,hn,⟨DD,e1.kept hg (fun e=>by have:=(hr mb e.symm).1; omega),e2⟩⟩
theorem BeI.own {S:ByteArray} {fb mb:Nat} {v:Value} {m:Nat} {D:Int} {i:Nat} {w:World} {b2 b3 tb BB:Nat} (hB:w.heap.size≤BB) (hmb:mb<BB):OwnFrom BB (fun (_:List Nat) W=>BeI S fb mb v m D i w b2 b3 tb W):=fun p X C row hs hgr hr=>by
 obtain ⟨⟨L,B,h0,h1⟩,h2,h3,h4,h5⟩:=hs
 exact ⟨⟨L,B,h0,qg BB tb (fun (_:Unit)=>_) _ () X C row h1 hgr hr⟩,h2.grown hmb hgr hr,qg BB b2 (fun (_:Unit)=>_) _ () X C row h3 hgr hr,qg BB b3 (fun (_:Unit)=>_) _ () X C row h4 hgr hr,Xi BB [] w hB () X C row h5 hgr hr⟩
theorem BeI.pure {S:ByteArray} {fb mb:Nat} {v:Value} {m:Nat} {D:Int} {i:Nat} {w:World} {b2 b3 tb:Nat} {X C:World} (hs:BeI S fb mb v m D i w b2 b3 tb X) (h:Upd [] X C):BeI S fb mb v m D i w b2 b3 tb C:=by
 obtain ⟨⟨L,B,h0,h1⟩,h2,h3,h4,h5⟩:=hs
 exact ⟨⟨L,B,h0,h1.upd h (by simp)⟩,h2.pure h,h3.upd h (by simp),h4.upd h (by simp),h5.then h⟩
theorem Upd.putObjZ {fp:List Nat} {a w:World} (h:Upd fp a w) {D:Nat} (hD:a.heap.size≤D) (o:Obj):Upd fp a (w.putObj D o):=h.grown (grownBy_putObj' w D o) (fun k e=>by cases e; exact .inr hD)
theorem ziJ {S:ByteArray} {fb mb:Nat} {v:Value} {m:Nat} {D:Int} {i:Nat} {w W W':World} {b2 b3 tb bi bf B:Nat} (hs:BeI S fb mb v m D i w b2 b3 tb W) (hu:Upd [tb] W W') (ht:TkB S i tb W')
 (g0:w.heap.size≤tb) (gf:fb<w.heap.size∧mb<w.heap.size ∧ ∀ k,v.ownBlock=some k→k<w.heap.size) (g1:b2≠tb∧b3≠tb∧bi≠tb∧bf≠tb) (g2:bi<W.heap.size∧bf<W.heap.size) :
 KeepsFrom B W W'∧Keep (bi::bf::fb::v.ownBlock.toList) W W'∧BeI S fb mb v m D i w b2 b3 tb W':=by
 obtain ⟨⟨L,B',h0,h1⟩,h2,h3,h4,h5⟩:=hs
 have hwW:=h5.size
 obtain ⟨gf1,gf2,gf3⟩:=gf
 obtain ⟨g11,g12,g13,g14⟩:=g1
 refine ⟨(hu.others (fun k hk=>?_)).from _,Keep.of_upd hu (fun k hk=>?_),ht,h2.upd hu ?_ ?_ ?_,h3.upd hu ?_,h4.upd hu ?_,h5.trans hu (fun k hk=>?_)⟩
 · simp at hk; subst hk; exact h1.cellsOnly
 · simp only [List.mem_cons] at hk
   rcases hk with rfl | rfl | rfl | hk
   · exact ⟨g2.1,by simpa using g13⟩
   · exact ⟨g2.2,by simpa using g14⟩
   · exact ⟨by omega,by simp; omega⟩
   · have:=gf3 k (by simpa using hk); exact ⟨by omega,by simp; omega⟩
 · simp; omega
 · simp; omega
 · intro k hk hm; have:=gf3 k hk; simp at hm; omega
 · simpa using g11
 · simpa using g12
 · simp at hk; exact .inr (by omega)
def zik (S:ByteArray) (i:Nat) (L B:Int):Prop:=(L=0∧B=0)∨(3≤L∧CopyT S i L B)
def BeP (S:ByteArray) (i:Nat) (w:World) (e:Ending) (w':World):Prop := ∃ L B,e = .returned (.agg #[.int .u8 0,.int .i64 L,.int .i64 B])∧zik S i L B∧Upd [] w w'
theorem ZI {fn:Func} {p:Tmp} (h:fn.results = #[.cell p 130]) (tmps:Array Value) (w:World) (g:Nat) (x y z:Value) (hp:tmps.getD p undef = .pointer (some ⟨g,0,none⟩)) (hB:Blk w g [x,y,z] 130) :
 (results fn tmps).run Tryz.prog w = .ok (.agg #[x,y,z]) w:=by
 have hc0:=hB.cell 0 rfl
 have hc1:=hB.cell 1 rfl
 have hc2:=hB.cell 2 rfl
 have hp2:tmps[p]?.getD undef = .pointer (some ⟨g,0,none⟩):=by rw [← hp]; simp
 simp [results,h,go_sem,hp2,hc0,hc1,hc2]
theorem zg5 {P:Program} {c:Code} {Q:Exit→Act→World→Prop} {a:Act} {w:World} (h : ∀ fr,fr=a→c.wp P Q fr w):c.wp P Q a w:=h a rfl
set_option maxRecDepth 100000 in
set_option maxHeartbeats 8000000 in
theorem JV (S:ByteArray) (fb mb i:Nat) (v:Value) (m:Nat) (D:Int) (w:World) (hs:S.size≤65000) (hi:i≤S.size) (hD:0≤D∧D≤2000) (hm:m≤65000) (hF:FinAt w fb mb S v m D) :
 Calls Tryz.prog 80 #[.pointer (some ⟨fb,0,none⟩),.int .i64 (i:Nat)] w fun e w'=>BeP S i w e w':=by
 have HF:=Lib.hid hF
 have HLT:=Lib.hid (show fb<w.heap.size∧mb<w.heap.size from ⟨hF.1.1.lt,by obtain ⟨n,_,h⟩:=hF.2; exact h.lt⟩)
 clear hF
 refine (callsIn_wide (n:=9)).1 ?_
 refine callsIn_of_wp_marks Tryz.func80 rfl trivial ?_ rfl
 simp only [Tryz.ntmps80,List.size_toArray,List.length_cons,List.length_nil,Nat.reduceAdd,Nat.reduceSub,Array.replicate_succ,Array.replicate_zero,List.push_toArray,List.append_toArray,List.nil_append,List.cons_append]
 refine wpIn_wide.2 ?_
 let QQ:Exit→Act→World→Prop:=bodyPost Tryz.prog Tryz.f80 (fun _ _=>True)
 go_wp2_with fail
 have hB2:Blk (((w.alloc (.cells #[.pointer (some ⟨fb,0,none⟩)] 125)).alloc (.cells #[.int .i64 (i:Nat)] 3)).alloc (.cells #[.int .u8 0,.int .i64 0,.int .i64 0] 130)) w.heap.size [.pointer (some ⟨fb,0,none⟩)] 125:=((Blk.new w [.pointer (some ⟨fb,0,none⟩)] _).alloc _).alloc _
 have hB3:Blk (((w.alloc (.cells #[.pointer (some ⟨fb,0,none⟩)] 125)).alloc (.cells #[.int .i64 (i:Nat)] 3)).alloc (.cells #[.int .u8 0,.int .i64 0,.int .i64 0] 130)) (w.heap.size+1) [.int .i64 (i:Nat)] 3:=by
  have h:=(Blk.new (w.alloc (.cells #[.pointer (some ⟨fb,0,none⟩)] 125)) [.int .i64 (i:Nat)] 3).alloc (.cells #[.int .u8 0,.int .i64 0,.int .i64 0] 130)
  simpa using h
 have hBt:Blk (((w.alloc (.cells #[.pointer (some ⟨fb,0,none⟩)] 125)).alloc (.cells #[.int .i64 (i:Nat)] 3)).alloc (.cells #[.int .u8 0,.int .i64 0,.int .i64 0] 130)) (w.heap.size+1+1) [.int .u8 0,.int .i64 0,.int .i64 0] 130:=by
  have h:=Blk.new ((w.alloc (.cells #[.pointer (some ⟨fb,0,none⟩)] 125)).alloc (.cells #[.int .i64 (i:Nat)] 3)) [.int .u8 0,.int .i64 0,.int .i64 0] 130
  simpa using h
 have hU1:Upd [] w (((w.alloc (.cells #[.pointer (some ⟨fb,0,none⟩)] 125)).alloc (.cells #[.int .i64 (i:Nat)] 3)).alloc (.cells #[.int .u8 0,.int .i64 0,.int .i64 0] 130)):=((((Upd.refl [] w).alloc _).alloc _).alloc _)
 have hz1:(((w.alloc (.cells #[.pointer (some ⟨fb,0,none⟩)] 125)).alloc (.cells #[.int .i64 (i:Nat)] 3)).alloc (.cells #[.int .u8 0,.int .i64 0,.int .i64 0] 130)).heap.size=w.heap.size+3:=by simp
 change Calls _ _ _ (((w.alloc (.cells #[.pointer (some ⟨fb,0,none⟩)] 125)).alloc (.cells #[.int .i64 (i:Nat)] 3)).alloc (.cells #[.int .u8 0,.int .i64 0,.int .i64 0] 130)) _
 generalize ((w.alloc (.cells #[.pointer (some ⟨fb,0,none⟩)] 125)).alloc (.cells #[.int .i64 (i:Nat)] 3)).alloc (.cells #[.int .u8 0,.int .i64 0,.int .i64 0] 130)=w1 at *
 obtain ⟨b2,hb2⟩ : ∃ b2,w.heap.size=b2:=⟨_,rfl⟩
 obtain ⟨b3,hb3⟩ : ∃ b3,w.heap.size+1=b3:=⟨_,rfl⟩
 obtain ⟨tb,htb⟩ : ∃ tb,w.heap.size+1+1=tb:=⟨_,rfl⟩
 rw [htb] at hBt
 rw [hb3] at hB3
 rw [hb2] at hB2
 have HS1:=Lib.hid (And.intro hb2 (And.intro hb3 htb))
 rw [htb,hb3,hb2]
 refine (Kf fb i w1).mono ?_
 rintro e w4 ⟨rfl,hw4⟩
 obtain ⟨bf,hbf⟩ : ∃ bf,w1.heap.size=bf:=⟨_,rfl⟩
 obtain ⟨bi,hbi⟩ : ∃ bi,w1.heap.size+1=bi:=⟨_,rfl⟩
 have hU4:Upd [] w1 w4:=by rw [hw4]; exact ((Upd.refl _ _).alloc _).alloc _
 have hBf:Blk w4 bf [.pointer (some ⟨fb,0,none⟩)] 125:=by rw [hw4,← hbf]; exact (Blk.new w1 [.pointer (some ⟨fb,0,none⟩)] _).alloc _
 have hBi:Blk w4 bi [.int .i64 (i:Nat)] 3:=by
  rw [hw4,← hbi]
  have h:=Blk.new (w1.alloc (.cells #[.pointer (some ⟨fb,0,none⟩)] 125)) [.int .i64 (i:Nat)] 3
  simpa using h
 have hz4:w4.heap.size=w1.heap.size+2:=by rw [hw4]; simp
 rw [hbi,hbf]
 have hF4:FinAt w4 fb mb S v m D:=(HF.out.pure hU1).pure hU4
 have HBE:=Lib.hid (show BeI S fb mb v m D i w b2 b3 tb w4 from ⟨⟨0,0,.inl ⟨rfl,rfl⟩,hBt.upd hU4 (by simp)⟩,hF4,hB2.upd hU4 (by simp),hB3.upd hU4 (by simp),hU1.then hU4⟩)
 have HSQ:=Lib.hid (VU S fb mb bi bf i v m D w4 hs hi hD hm hF4 hBi hBf)
 have HVL:Hid (∀ k,v.ownBlock=some k→k<w.heap.size):=Lib.hid (by obtain ⟨xs,_,_,h⟩:=HF.out.1.2.1; exact h.lt)
 have HSZ:Hid (w.heap.size≤tb∧(b2≠tb∧b3≠tb∧bi≠tb∧bf≠tb)∧(bi<w4.heap.size∧bf<w4.heap.size∧tb<w4.heap.size)∧w.heap.size≤w4.heap.size):=Lib.hid (by have:=HS1.out; omega)
 have hks:Hid (∀ k∈bi::bf::fb::v.ownBlock.toList,k≠w4.heap.size+1):=Lib.hid (by
  have h1:=HSZ.out
  have h2:=HLT.out
  intro k hk
  simp only [List.mem_cons] at hk
  rcases hk with rfl | rfl | rfl | hk
  · omega
  · omega
  · omega
  · have:=HVL.out k (by simpa using hk); omega)
 clear hw4 hU4 hBf hBi hz4 hF4 hB2 hB3 hBt hU1 hz1 hb2 hb3 htb hbf hbi HF HS1
 go_wp2_with fail
 refine zg5 ?_
 intro fr hfr
 refine Code.wp_mono (Q:=fun e a' W=>e = .normal ∧ ∃ DD pre,a' = { fr with defers := { target := .collected DD,args := #[] }::fr.defers }∧w4.heap.size≤DD∧W.heap[DD]? =some (.deferred (some []))∧BeI S fb mb v m D i w b2 b3 tb W∧Hid (pre=([]:List Nat)∨True)) ?cont ((wpIn_wide (n:=9)).1 ?main)
 case main =>
  refine zgK (gf:=163) (lb := #[.pointer (some ⟨bi,0,none⟩),.pointer (some ⟨bf,0,none⟩)]) (by rw [hfr]; rfl) (enters_of Tryz.func163 (by kernel_rfl) rfl)
   HSQ.out hks.out (fun _=>rfl)
   (fun pre W=>BeI S fb mb v m D i w b2 b3 tb W)
   (fun _ _ _=>False)
   ?act
   (BeI.own HSZ.out.2.2.2 (Nat.lt_of_lt_of_le HLT.out.2 HSZ.out.2.2.2)) (fun c=>fun _ _ _ _ h _ _=>h)
   (fun pre A B h hu=>h.pure hu.1) (fun _ _ _ _ h _=>h) HBE.out ?assign ?body ?done ?stop
  case assign =>
   intro L1 x W K hK
   subst hfr
   gi_wp2
   exact hK
  case body =>
   rintro L1 pre x W hsz hfp hI ⟨hpx,hxN⟩
   subst hfr
   have HI:=Lib.hid hI
   obtain ⟨⟨L,B,h0,h1⟩,h2,h3,h4,h5⟩:=hI
   have hbd:=h0.bd
   have H0:=Lib.hid h0
   have HSZW:=Lib.hid hsz
   have c20:=h3.cell 0 rfl
   have c30:=h4.cell 0 rfl
   have t1:=h1.cell 1 rfl
   have s0:=h2.1.1.cell 0 rfl
   have hzw:IntKind.i64.wrap ((i:Int)-(x:Int))=(i:Int)-(x:Int):=by rw [IntWalk.i64_in _ (by omega)]
   have HLG:=Lib.hid (fun w'=>zba S i ((i:Int)-(x:Int)) w' hs hi (by omega))
   have hok:=ziH S i ((i:Int)-(x:Int)) hi
   have H1:=Lib.hid h1
   clear h0 h1 h2 h3 h4 h5
   obtain ⟨LN,hLN⟩ : ∃ LN,lzN S i ((i:Int)-(x:Int))=LN:=⟨_,rfl⟩
   rw [hLN] at hok
   have hLN258:=hok.1
   have HOK:=Lib.hid hok.2
   have HLN:=Lib.hid hLN
   unfold zdi at HLG
   rw [hLN] at HLG
   clear hok hLN
   gi_wp2_with fail
   refine XN (by kernel_rfl) (by kernel_rfl) (by kernel_rfl) (fun K hKQ=>?_)
   repeat (go_big_quiet_step ((go_at_call 127; exact Calls.quiet_of (HLG.out _))))
   refine wpQuiet_nil ?_
   rintro _ ⟨nq,rfl⟩
   refine hKQ _ _ ?_
   clear hKQ K
   have HUq:=Lib.hid ((Upd.refl [tb] W).drewN nq)
   have HBq:=Lib.hid (Blk.drewN H1.out nq)
   have c31:=HI.out.2.2.2.1.drewN nq |>.cell 0 rfl
   clear c20 c30 t1 s0 HLG hzw
   obtain ⟨Wq,hWq⟩ : ∃ Wq,W.drewN nq=Wq:=⟨_,rfl⟩
   rw [hWq] at HUq HBq c31 ⊢
   clear hWq
   have qA:=HBq.out.all
   have fqA:=HBq.out.frz
   have hzw:IntKind.i64.wrap ((i:Int)-(x:Int))=(i:Int)-(x:Int):=by rw [IntWalk.i64_in _ (by omega)]
   have HEND:=Lib.hid (fun W' (hu:Upd [tb] W W') (ht:TkB S i tb W')=>ziJ (B:=w4.heap.size) (bi:=bi) (bf:=bf) HI.out hu ht HSZ.out.1 ⟨HLT.out.1,HLT.out.2,HVL.out⟩ HSZ.out.2.1 (by have:=HSZ.out.2.2.1; have:=HSZW.out; exact ⟨by omega,by omega⟩))
   by_cases hg:L<(LN:Int)
   · have HCT:Hid (CopyT S i (LN:Int) ((i:Int)-(x:Int))):=Lib.hid (by
      rcases HOK.out with h | ⟨h1,h2⟩
      · omega
      · exact .inr ⟨LN,((i:Int)-(x:Int)).toNat,rfl,by omega,by omega,by omega,h1⟩)
     gi_wp2
     have hB9:=(((HBq.out.set 0 (.int .u8 0)).set 1 (.int .i64 (LN:Nat))).set 2 (.int .i64 ((i:Int)-(x:Int))))
     simp only [List.set_cons_zero,List.set_cons_succ] at hB9
     exact HEND.out _ (((HUq.out.setCell (.inl (by simp)) _).setCell (.inl (by simp)) _).setCell (.inl (by simp)) _) ⟨_,_,HCT.out,hB9⟩
   · gi_wp2
     exact HEND.out _ HUq.out ⟨_,_,H0.out,HBq.out⟩
  case done =>
   rintro DD xs W hD hxs hI hK
   exact ⟨rfl,DD,[],rfl,hD,hK,hI,Lib.hid (.inl rfl)⟩
  case stop =>
   rintro DD c pre W hD hpre h hK
   exact h.elim
 case cont =>
  rintro e a' wz ⟨rfl,DD,pre,rfl,hD,hDk,hI,HP⟩
  subst hfr
  have HDk:=Lib.hid hDk
  obtain ⟨⟨L,B,h0,h1⟩,-,-,-,h5⟩:=hI
  have H0:=Lib.hid h0
  have H1:=Lib.hid h1
  have H5:=Lib.hid h5
  have hbd:=h0.bd
  have hDlt:DD<wz.heap.size:=(Array.getElem?_eq_some_iff.1 hDk).1
  have hDt:DD≠tb:=by have:=HSZ.out; omega
  have tA:=h1.all
  have t1:=h1.cell 1 rfl
  have fA:=h1.frz
  clear h0 h1 h5 hDk
  by_cases h3:L<3
  · go_wp2
    have hk9:(((wz.setCell ⟨tb,0,none⟩ (.int .u8 0)).setCell ⟨tb,1,none⟩ (.int .i64 0)).setCell ⟨tb,2,none⟩ (.int .i64 0)).heap[DD]? =some (.deferred (some [])):=(((Below.heap_setCell _ _ _ _ hDt).trans (Below.heap_setCell _ _ _ _ hDt)).trans (Below.heap_setCell _ _ _ _ hDt)).trans HDk.out
    refine ⟨by simp,.inl ⟨_,_,rfl,run_takeDeferred hk9,?_⟩⟩
    have hB8:=(((H1.out.set 0 (.int .u8 0)).set 1 (.int .i64 0)).set 2 (.int .i64 0))
    simp only [List.set_cons_zero,List.set_cons_succ] at hB8
    have hB9:Blk ((((wz.setCell ⟨tb,0,none⟩ (.int .u8 0)).setCell ⟨tb,1,none⟩ (.int .i64 0)).setCell ⟨tb,2,none⟩ (.int .i64 0)).putObj DD (.deferred none)) tb [.int .u8 0,.int .i64 0,.int .i64 0] 130:=(World.putObj_heap_other (Ne.symm hDt)).trans hB8
    have hU9:Upd [] w ((((wz.setCell ⟨tb,0,none⟩ (.int .u8 0)).setCell ⟨tb,1,none⟩ (.int .i64 0)).setCell ⟨tb,2,none⟩ (.int .i64 0)).putObj DD (.deferred none)):=(((H5.out.setCell (.inr HSZ.out.1) _).setCell (.inr HSZ.out.1) _).setCell (.inr HSZ.out.1) _).putObjZ (by have:=HSZ.out.2.2.2; omega) _
    exact ⟨_,ZI rfl _ _ tb _ _ _ rfl hB9,_,_,rfl,.inl ⟨rfl,rfl⟩,hU9⟩
  · go_wp2
    have hk9:(((wz.setCell ⟨tb,0,none⟩ (.int .u8 0)).setCell ⟨tb,1,none⟩ (.int .i64 L)).setCell ⟨tb,2,none⟩ (.int .i64 B)).heap[DD]? =some (.deferred (some [])):=(((Below.heap_setCell _ _ _ _ hDt).trans (Below.heap_setCell _ _ _ _ hDt)).trans (Below.heap_setCell _ _ _ _ hDt)).trans HDk.out
    refine ⟨by simp,.inl ⟨_,_,rfl,run_takeDeferred hk9,?_⟩⟩
    have hB8:=(((H1.out.set 0 (.int .u8 0)).set 1 (.int .i64 L)).set 2 (.int .i64 B))
    simp only [List.set_cons_zero,List.set_cons_succ] at hB8
    have hB9:Blk ((((wz.setCell ⟨tb,0,none⟩ (.int .u8 0)).setCell ⟨tb,1,none⟩ (.int .i64 L)).setCell ⟨tb,2,none⟩ (.int .i64 B)).putObj DD (.deferred none)) tb [.int .u8 0,.int .i64 L,.int .i64 B] 130:=(World.putObj_heap_other (Ne.symm hDt)).trans hB8
    have hU9:Upd [] w ((((wz.setCell ⟨tb,0,none⟩ (.int .u8 0)).setCell ⟨tb,1,none⟩ (.int .i64 L)).setCell ⟨tb,2,none⟩ (.int .i64 B)).putObj DD (.deferred none)):=(((H5.out.setCell (.inr HSZ.out.1) _).setCell (.inr HSZ.out.1) _).setCell (.inr HSZ.out.1) _).putObjZ (by have:=HSZ.out.2.2.2; omega) _
    exact ⟨_,ZI rfl _ _ tb _ _ _ rfl hB9,_,_,rfl,.inr ⟨by omega,H0.out⟩,hU9⟩
end Go.Proofs.YtfkcdnaghndgfaaGreatDoor
namespace Go.Proofs.YtfkcdnaghndgfaaGreatDoor
open Go.RowKit
attribute [local go_sem] Oper.semAt_some
def tcs (l:List Tok):List Value:=l.flatMap Tok.cs
theorem Xu (t:Tok) (l:List Tok):tcs (t::l)=t.cs++tcs l:=rfl
theorem Ka : ∀ l:List Tok,(tcs l).length=l.length*3
 | []=>rfl
 | t::l=>by rw [Xu,List.length_append,Ka l,List.length_cons]; show 3+_=_; omega
theorem Xw : ∀ (l:List Tok) (i:Nat) (h:i<l.length) (r:Nat),r<3→(tcs l)[i*3+r]? =(l[i].cs)[r]?
 | [],i,h,_,_=>by simp at h
 | t::l,0,h,r,hr=>by
   rw [Xu,List.getElem?_append_left (by show _<3; omega)]
   simp
 | t::l,i+1,h,r,hr=>by
   rw [Xu,List.getElem?_append_right (by show 3≤_; omega)]
   have:=Xw l i (by simpa using h) r hr
   rw [show (i+1)*3+r-t.cs.length=i*3+r by show _-3=_; omega,this]
   rfl
def Fit (l:List Tok):Prop := ∀ t∈l,t.byte<256∧(-9223372036854775808≤t.long∧t.long≤9223372036854775807)∧(-9223372036854775808≤t.back∧t.back≤9223372036854775807)
theorem TokIn.fit {w:World} {a:Option Addr} {n:Nat} {l:List Tok} (h:TokIn w a n l):Fit l:=fun t ht=>by
 obtain ⟨i,hi,rfl⟩:=List.getElem_of_mem ht
 obtain ⟨b,off,_,_,r⟩:=h.cell i hi
 exact r
theorem TokIn.cells {w:World} {a:Option Addr} {n:Nat} {l:List Tok} (h:TokIn w a n l) (b off:Nat) (ha:a=some ⟨b,off,none⟩) : ∀ j u,(tcs l)[j]? =some u→w.cell? ⟨b,off+j,none⟩=some u:=fun j u hu=>by
 obtain ⟨hj,_⟩:=List.getElem?_eq_some_iff.1 hu
 rw [Ka] at hj
 have hi:j/3<l.length:=by omega
 have hr:j%3<3:=by omega
 have e:j=j/3*3+j%3:=by omega
 obtain ⟨b',off',e',⟨c1,c2,c3⟩,_⟩:=h.cell (j/3) hi
 rw [ha] at e'
 cases e'
 rw [e,Xw l _ hi _ hr] at hu
 obtain hr | hr | hr:j%3=0∨j%3=1∨j%3=2:=by omega
 all_goals (rw [hr] at hu; simp [Tok.cs] at hu; subst hu)
 · exact (congrArg (fun k=>w.cell? ⟨b,k,none⟩) (by omega:off+j=off+j/3*3)).trans c1
 · exact (congrArg (fun k=>w.cell? ⟨b,k,none⟩) (by omega:off+j=off+j/3*3+1)).trans c2
 · exact (congrArg (fun k=>w.cell? ⟨b,k,none⟩) (by omega:off+j=off+j/3*3+2)).trans c3
theorem TokIn.of_row {w:World} {v:Value} {n:Nat} {l:List Tok} (h:Row w 130 3 v n (tcs l)) (hf:Fit l) : ∃ a c,v = .slice a n c∧TokIn w a n l∧(∀ b off,a=some ⟨b,off,none⟩→v.ownBlock=some b)∧((a=none∧n=0∧c=0) ∨ ∃ g o,a=some ⟨g,o,none⟩)∧n≤c:=by
 have hl:l.length=n:=by have:=h.1; rw [Ka] at this; omega
 have hI : ∀ a c,v = .slice a n c→TokIn w a n l:=fun a c hv=>⟨hl,fun i hi=>by
  subst hv
  obtain ⟨g,cc,e,_,_⟩:=h.form' (by omega)
  cases e
  have hx:=hf _ (List.getElem_mem hi)
  refine ⟨g,0,rfl,⟨?_,?_,?_⟩,hx⟩
  · have:=h.cell (i*3+0) (by rw [Xw l i hi 0 (by omega)]; rfl); rw [Nat.zero_add]; exact this
  · have:=h.cell (i*3+1) (by rw [Xw l i hi 1 (by omega)]; rfl); rw [Nat.zero_add]; exact this
  · have:=h.cell (i*3+2) (by rw [Xw l i hi 2 (by omega)]; rfl); rw [Nat.zero_add]; exact this⟩
 rcases h.2 with ⟨hv,h0⟩ | ⟨g,cap,cur,hv,hb,hg,hc,_⟩
 · subst h0
   exact ⟨none,0,hv,hI _ _ hv,(fun b off e=>by cases e),.inl ⟨rfl,rfl,rfl⟩,Nat.le_refl _⟩
 · exact ⟨_,cap,hv,hI _ _ hv,(fun b off e=>by cases e; rw [hv]; rfl),.inr ⟨g,0,rfl⟩,hc⟩
theorem zdb:(Tryz.prog.info? 130).map (fun i=>(i.zero,i.size,i.bytes))=some (some (.agg #[.int .u8 0,.int .i64 0,.int .i64 0]),3,24):=by kernel_rfl
end Go.Proofs.YtfkcdnaghndgfaaGreatDoor
namespace Go.Proofs.YtfkcdnaghndgfaaGreatDoor
open Go.RowKit
attribute [local go_sem] Oper.semAt_some
def yR (bs:List Nat):List Tok:=bs.map fun b=>⟨b,0,0⟩
theorem zaG (bs:List Nat) (b:Nat):yR (bs++[b])=yR bs++[⟨b,0,0⟩]:=by simp [yR]
theorem Xs (l r:List Tok):tcs (l++r)=tcs l++tcs r:=by unfold tcs; rw [List.flatMap_append]
theorem Ys (t:Tok):tcs [t]=t.cs:=by simp [tcs]
def zgq (bs:List Nat) (w:World) (e:Ending) (w':World):Prop := ∃ v,e = .returned v∧Row w' 130 3 v bs.length (tcs (yR bs))∧(∀ k,v.ownBlock=some k→w.heap.size≤k)∧Upd [] w w'
set_option maxRecDepth 100000 in
set_option maxHeartbeats 6400000 in
theorem Zz (S:ByteArray) (w:World) (hs:S.size≤65000) :
 Calls Tryz.prog 77 #[.string S] w fun e w'=>zgq (zc S) w e w':=by
 obtain ⟨i0,hi,jz0,jz1,jz2⟩:=info_parts zdb
 have HBL:=Lib.hid (zd S)
 have hsz : ¬ (65000:Int)<(S.size:Int):=by omega
 go_enter Tryz.func77,Tryz.ntmps77
 go_wp2
 go_loopg [2,9] 70000 (fun gg s2 s9 wr => ∃ i:Nat,i≤S.size∧gg=70000-i∧s9 = .int .i64 (i:Nat)∧Hid (Row wr 130 3 s2 i (tcs (yR ((zc S).take i))))∧Hid (∀ k,s2.ownBlock=some k→w.heap.size≤k)∧Hid (Upd [] w wr))
 case atStart=>exact ⟨0,by omega,by omega,rfl,Lib.hid (Row.nil _ _ _),Lib.hid (fun k h=>by cases h),Lib.hid (Upd.refl _ _)⟩
 case round =>
  obtain ⟨i,hin,rfl,rfl,HR,HO,HU⟩:=hrel
  obtain ⟨va,vc,rfl⟩:=HR.out.form
  by_cases hc:i<S.size
  · have hcz:(i:Int)<(S.size:Int):=by omega
    have hil:i<(zc S).length:=by rw [HBL.out]; exact hc
    have hw1:IntKind.i64.wrap ((i:Int)+1)=((i+1:Nat):Int):=by rw [IntWalk.i64_in _ (by omega)]; rfl
    have HTK:Hid (tcs (yR ((zc S).take (i+1)))=tcs (yR ((zc S).take i))++[.int .u8 ((S[i]'hc).toNat:Nat),.int .i64 0,.int .i64 0]):=Lib.hid (by
     rw [List.take_succ_eq_append_getElem hil,zaG,Xs,Ys,yf S i hc hil]
     rfl)
    have hRz:=HR.out.alloc (.cells #[(.int .u8 ((S[i]'hc).toNat:Nat):Value),.int .i64 0,.int .i64 0] 130)
    have HNW:Hid (∀ j u,([(.int .u8 ((S[i]'hc).toNat:Nat):Value),.int .i64 0,.int .i64 0]:List Value)[j]? =some u→(wr.alloc (.cells #[(.int .u8 ((S[i]'hc).toNat:Nat):Value),.int .i64 0,.int .i64 0] 130)).cell? ((⟨wr.heap.size,0,none⟩:Addr).add j)=some u):=Lib.hid (World.news_of_block (cs := #[(.int .u8 ((S[i]'hc).toNat:Nat):Value),.int .i64 0,.int .i64 0]) (t:=130) (fr:=(0,0)) (heap_alloc_new _ _))
    have HST:Hid (∀ v∈([(.int .u8 ((S[i]'hc).toNat:Nat):Value),.int .i64 0,.int .i64 0]:List Value),v.oneCell'=true):=Lib.hid (by simp [Value.oneCell'])
    go_wp2_with (at_builtin; refine zz _ rfl _ _ 70 rfl 130 i0 _ 3 24 Tryz.underlying70 hi jz0 jz1 jz2 rfl (by omega) (.slice va i vc) i _ rfl hRz ⟨wr.heap.size,0,none⟩ 1 1 [(.int .u8 ((S[i]'hc).toNat:Nat):Value),.int .i64 0,.int .i64 0] rfl rfl HNW.out HST.out (by unfold maxLen; omega) (by omega) ?_)
    intro v5 w5 hR5 hU5 hT5
    rw [← HTK.out] at hR5
    have HR5:=Lib.hid hR5
    have HO5:Hid (∀ k,v5.ownBlock=some k→w.heap.size≤k):=Lib.hid (fun k hk=>by
     rcases hT5 with h | ⟨g',h1,h2⟩
     · exact HO.out k (by rw [← h]; exact hk)
     · rw [hk] at h1
       cases h1
       have:=(HU.out.alloc (.cells #[(.int .u8 ((S[i]'hc).toNat:Nat):Value),.int .i64 0,.int .i64 0] 130)).size
       omega)
    have HU5:Hid (Upd [] w w5):=Lib.hid ((HU.out.alloc (.cells #[(.int .u8 ((S[i]'hc).toNat:Nat):Value),.int .i64 0,.int .i64 0] 130)).trans hU5 (fun k hk => .inr (HO.out k (by simpa using hk))))
    clear hR5 hU5 hT5 hRz HNW HST
    go_wp2
    go_roundg (70000-(i+1))
    · exact ⟨i+1,by omega,by first | rfl | omega,by first | rfl | go_num,HR5,HO5,HU5⟩
    · omega
  · have hcz : ¬ (i:Int)<(S.size:Int):=by omega
    obtain rfl:i=S.size:=by omega
    have HR2:Hid (Row wr 130 3 (.slice va S.size vc) (zc S).length (tcs (yR (zc S)))):=Lib.hid (by
     have:=HR.out
     rw [List.take_of_length_le (by rw [HBL.out]; exact Nat.le_refl _)] at this
     rw [HBL.out]; exact this)
    go_wp2
    go_ret
    exact ⟨_,rfl,HR2.out,HO.out,HU.out⟩
end Go.Proofs.YtfkcdnaghndgfaaGreatDoor
namespace Go.Proofs.YtfkcdnaghndgfaaGreatDoor
open Go.RowKit
def ziK (s:Int):Int:=if s<0∨18<s then -1 else if s≤15 then 0 else if s=16 then 2 else if s=17 then 3 else 7
theorem WG (s:Int) (w:World):Calls Tryz.prog 232 #[.int .i64 s] w fun e w'=>e = .returned (.int .i64 (ziK s))∧w=w':=by
 go_enter Tryz.func232,Tryz.ntmps232
 go_wp2
 all_goals go_returns
 all_goals (refine ⟨congrArg (fun z=>Ending.returned (.int .i64 z)) ?_,rfl⟩)
 all_goals (unfold ziK; (repeat' split)<;>first | rfl | (exfalso; omega) | (exfalso; simp_all; done) | (exfalso; simp_all; omega))
def KE (s:Int):Int:=if s=18 then 11 else 3
theorem xe (s:Int) (w:World):Calls Tryz.prog 220 #[.int .i64 s] w fun e w'=>e = .returned (.int .i64 (KE s))∧w=w':=by
 go_enter Tryz.func220,Tryz.ntmps220
 go_wp2
 all_goals go_returns
 all_goals (refine ⟨congrArg (fun z=>Ending.returned (.int .i64 z)) ?_,rfl⟩)
 all_goals (unfold KE; (repeat' split)<;>first | rfl | (exfalso; omega) | (exfalso; simp_all; done) | (exfalso; simp_all; omega))
theorem vV:(Tryz.prog.info? 217).map (·.size)=some 3:=by kernel_rfl
theorem xJ {P:Program} {fn:Func} {p u:Tmp} {ty:TypeId} (h:fn.results = #[.cell p ty,.tmp u]) (tmps:Array Value) (w:World) (g:Nat) (t:TypeId) (cs:Array Value) (fr:Nat×Nat) (d:TypeDesc) (v:Value)
 (hp:tmps.getD p undef = .pointer (some ⟨g,0,none⟩)) (hv:tmps.getD u undef=v) (hg:w.heap[g]? =some (.cells cs t fr))
 (hu:P.underlying ty=some d) (hd:(match d with | .struct _ | .array _ _=>true | _=>false)=true) (hi:(P.info? ty).map (·.size)=some cs.size) :
 (results fn tmps).run P w = .ok (.tuple #[.agg cs,v]) w:=by
 rw [results_cell_tmp h,hp,hv]
 simp [asAddr,run_loadVar_row w g t ty cs fr d hg hu hd hi,Result.andThen]
def Jc (s:Nat):Nat:=if s=16 then 6 else if s=17 then 10 else 138
def runL' (s:Nat):Nat:=if s=18 then 11 else 3
def vy (s:Nat):Nat:=if s=16 then 2 else if s=17 then 3 else 7
def zaj (s n:Nat) (w:World) (e:Ending) (w':World):Prop:=e = .returned (.tuple #[.agg #[.int .i64 (s:Nat),.int .i64 (vy s:Nat),.int .i64 ((min n (Jc s)-runL' s:Nat):Int)],.int .i64 ((min n (Jc s):Nat):Int)])∧Upd [] w w'
set_option maxRecDepth 100000 in
set_option maxHeartbeats 3200000 in
theorem vJ (s n:Nat) (w:World) (hs:s=16∨s=17∨s=18) (hn:runL' s≤n) (hn2:n≤1000000) :
 Calls Tryz.prog 221 #[.int .i64 (s:Nat),.int .i64 (n:Nat)] w fun e w'=>zaj s n w e w':=by
 obtain ⟨M,hM⟩ : ∃ M,Jc s=M:=⟨_,rfl⟩
 obtain ⟨L,hL⟩ : ∃ L,runL' s=L:=⟨_,rfl⟩
 obtain ⟨b,hb⟩ : ∃ b,vy s=b:=⟨_,rfl⟩
 have hB:ziK (s:Nat)=(b:Int):=by rw [← hb]; rcases hs with rfl | rfl | rfl<;>decide
 have hLI:KE (s:Nat)=(L:Int):=by rw [← hL]; rcases hs with rfl | rfl | rfl<;>decide
 obtain ⟨P,hP⟩ : ∃ P:Nat,2^b=P:=⟨_,rfl⟩
 have hPM:L+P-1=M∧3≤L∧L≤11∧4≤P∧P≤128∧b≤7:=by
  rw [← hM,← hL,← hP,← hb]
  rcases hs with rfl | rfl | rfl<;>decide
 have HBI:=Lib.hid (fun w'=>show Calls Tryz.prog 232 #[.int .i64 (s:Nat)] w' fun e w2=>e = .returned (.int .i64 (b:Int))∧w'=w2 by rw [← hB]; exact WG _ w')
 have HLE:=Lib.hid (fun w'=>show Calls Tryz.prog 220 #[.int .i64 (s:Nat)] w' fun e w2=>e = .returned (.int .i64 (L:Int))∧w'=w2 by rw [← hLI]; exact xe _ w')
 have hpw:wrap64 ((2:Int)^b)=(P:Int):=by
  have:((2:Int)^b)=(P:Int):=by rw [← hP]; simp
  rw [this]
  unfold wrap64
  omega
 have HPW:=Lib.hid hpw
 unfold zaj
 rw [hM,hL,hb]
 rw [hL] at hn
 clear hpw hB hLI hM hL hb hP
 obtain ⟨q,hq⟩ : ∃ q:Nat,min n M=q:=⟨_,rfl⟩
 have hqi:min (n:Int) (M:Int)=(q:Int):=by omega
 have hLq:L≤q:=by omega
 rw [hq]
 have hw1:IntKind.i64.wrap ((L:Int)+(P:Int))=(L:Int)+(P:Int):=IntWalk.i64_in _ (by omega)
 have hw2:IntKind.i64.wrap ((L:Int)+(P:Int)-1)=(M:Int):=by rw [IntWalk.i64_in _ (by omega)]; omega
 have hw3:IntKind.i64.wrap ((q:Int)-(L:Int))=((q-L:Nat):Int):=by rw [IntWalk.i64_in _ (by omega)]; omega
 have hb64:(b:Int)<64:=by omega
 have HQ:=Lib.hid hq
 clear hq hPM
 have hpw:=HPW.out
 go_enter Tryz.func221,Tryz.ntmps221
 go_wp2_with fail
 refine (HBI.out _).mono ?_
 rintro e w1 ⟨rfl,rfl⟩
 go_wp2
 go_quiet ((go_at_call 220; exact Calls.quiet_of_same ((HLE.out _).mono fun e w' ⟨he,hw⟩=>⟨he,hw.symm⟩)))
 go_wp2_with fail
 refine (HLE.out _).mono ?_
 rintro e w2 ⟨rfl,rfl⟩
 have hB:=(Blk.new w [.int .i64 0,.int .i64 0,.int .i64 0] 217).drewN nq
 have hU:=((Upd.refl [] w).alloc (.cells #[.int .i64 0,.int .i64 0,.int .i64 0] 217)).drewN nq
 have fA:=hB.frz
 have cA:=hB.all
 have HB:=Lib.hid hB
 have HU:=Lib.hid hU
 clear hB hU hpw
 go_wp2
 have hB9:=((HB.out.set 0 (.int .i64 (s:Nat))).set 1 (.int .i64 (b:Nat))).set 2 (.int .i64 ((q-L:Nat):Int))
 refine bodyPost_ret (xJ rfl _ _ w.heap.size _ _ _ _ (.int .i64 (q:Nat)) (by simp [Act.put]) (by simp [Act.put]) hB9 Tryz.underlying217 rfl (by rw [vV]; rfl)) (by simp [Act.put]) ⟨?_,?_⟩
 · rfl
 · exact ((HU.out.setCell (.inr (Nat.le_refl _)) _).setCell (.inr (Nat.le_refl _)) _).setCell (.inr (Nat.le_refl _)) _
end Go.Proofs.YtfkcdnaghndgfaaGreatDoor
