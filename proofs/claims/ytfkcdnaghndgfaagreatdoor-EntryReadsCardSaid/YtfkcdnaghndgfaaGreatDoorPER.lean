/- Proved: Rows.EntryReadsCardSaid: called with any text and any record, the law EntryReads returns true and leaves its arguments as they were. No condition beyond the statement's own. -/
import Derived.ShutString
import Derived.ChangeOld
import Derived.Carry
import Derived.Test.YtfkcdnaghndgfaaGreatDoorTie
import Derived.Test.YtfkcdnaghndgfaaGreatDoorCards
import Derived.ProofKit
import Derived.OpenShut
import Derived.LaidMore
import Derived.Lay
import Derived.SevenTiedAt
import Derived.Stop.Joined
import Derived.Test.YtfkcdnaghndgfaaGreatDoorQBW
import Derived.Test.YtfkcdnaghndgfaaGreatDoorQBH
set_option linter.unusedVariables false
set_option linter.unusedSimpArgs false
set_option linter.unusedSectionVars false
namespace Go.Proofs.YtfkcdnaghndgfaaGreatDoor.entryReads
open Go.ChangeShapes Go.WideShapes Go.ChangeAt Go.RowKit Go.Deep
open Go.ChangeMaps (open_string shut_string)
theorem own:ownKnob Tryz.prog.godebug=none:=by kernel_rfl
theorem laidOut:laidOutB Tryz.prog=true:=by kernel_rfl
def laidL:List (String×DataW Unit):=[("unicode/utf8.acceptRanges",Rows.laid_unicode_utf8_acceptRanges),("unicode/utf8.first",Rows.laid_unicode_utf8_first)]
set_option maxRecDepth 100000 in
theorem lifted (os:Os) (started:os.Started) (H:Type) (enc:TypeId×Value→H) :
 ReturnsInHanded {} Tryz.checked os 4 .any (fun w args=>(Rows.entryReadsSpec.pre enc Tryz.prog Tryz.f4 Rows.entryReadsRow.domain false w args∧laidMetH Tryz.prog laidL w)∧sizedMet enc Tryz.prog Tryz.f4 (OpenSpec.ofChange Rows.entryReadsSpec) false w args)
  (Rows.entryReadsSpec.post enc Tryz.prog Tryz.f4 false true false false):=by
 refine returnsInHanded_of_change_and (C:=Tryz.checked) (X:=fun w _=>laidMetH Tryz.prog laidL w) (fun _ _ _ hh h=>h.of_heap hh) own started (by kernel_rfl) Tryz.func4
  (ChangeSpec.witness_shaped (enc:=enc) (C:=Tryz.checked) (os:=os) (X:=fun w _=>laidMetH Tryz.prog laidL w) false (World.laidAll Tryz.prog os laidL) #[.string ByteArray.empty,.agg #[.string ByteArray.empty,.int .i64 0,.int .u32 0,.int .i64 0,.int .i64 0,.int .i64 0,.int .i64 0,.int .u32 0,.int .i64 0]] 8 (World.laidAll_os _ _ _)
   (World.shaped_of_ZipB (by kernel_rfl) (by kernel_rfl)) (by kernel_rfl) (by kernel_rfl) (by kernel_rfl)
   (by rw [MakeChecks.laidMetH_plain _ _ _ (by kernel_rfl)]; exact laidMet_laidAll _ (by kernel_rfl) (by kernel_rfl))) ?_
 intro W base args ds gs before hval0 hW hcnd _ hL _
 have hval : ∀ (j:Nat) t v,Tryz.f4.params[j]? =some t→args[j]? =some v→Value.okWide Tryz.prog W .any base t v:=hval0
 have hW':=hW
 obtain ⟨p,q,hA0,hV,rfl,hfz,hnd⟩:=hW
 have hA:DataW.TrodAll enc Tryz.prog W 0 (fun _=>true) true Tryz.f4.params.toList args.toList ds p:=hA0
 rw [Tryz.params4] at hA hval
 obtain ⟨v0,vs0,d0,ds0,p0,q0,hargs,rfl,rfl,h0,r0⟩:=trodAll_cons hA
 obtain ⟨v1,vs1,d1,ds1,p1,q1,rfl,rfl,rfl,h1,r1⟩:=trodAll_cons r0
 obtain ⟨rfl,rfl,rfl⟩:=trodAll_nil r1
 obtain rfl:args = #[v0,v1]:=by cases args; simp_all
 obtain ⟨rfl,rfl⟩:=trodVars_none hV
 obtain ⟨s0,rfl,rfl,rfl,ws0⟩:=open_string Tryz.underlying9 (hval 0 9 v0 rfl rfl) h0
 obtain ⟨cs1,rfl,hcs1⟩:=okWide_struct Tryz.underlying26 (hval 1 26 v1 rfl rfl)
 have k1:=h1
 have lt1 : ∀ x∈p1,x.block<W.heap.size:=by obtain ⟨m,hm⟩:=k1; exact DataW.trod_lt m _ _ _ hm
 obtain ⟨fuel1,hf1⟩:=h1
 have hs0:s0.size≤9223372036854775807:=by have:=ws0; unfold maxLen at this; omega
 have hn1 : ∃ (r:RecD),(.agg cs1:Value)=r.v∧r.sum<4294967296∧r.t<4294967296∧r.p.size≤9223372036854775807:=by
  have hsz:cs1.size=9:=hcs1.trans (by kernel_rfl)
  obtain ⟨n,hj⟩:=zg5 Tryz.underlying26 (by kernel_rfl) (by simp only [Value.cells]; simpa using hsz) hf1
  obtain ⟨u0,y0,e0,t0⟩:=hj 0 _ rfl
  obtain ⟨u1,y1,e1,t1⟩:=hj 1 _ rfl
  obtain ⟨u2,y2,e2,t2⟩:=hj 2 _ rfl
  obtain ⟨u3,y3,e3,t3⟩:=hj 3 _ rfl
  obtain ⟨u4,y4,e4,t4⟩:=hj 4 _ rfl
  obtain ⟨u5,y5,e5,t5⟩:=hj 5 _ rfl
  obtain ⟨u6,y6,e6,t6⟩:=hj 6 _ rfl
  obtain ⟨u7,y7,e7,t7⟩:=hj 7 _ rfl
  obtain ⟨u8,y8,e8,t8⟩:=hj 8 _ rfl
  obtain ⟨n0,g0,_,w0⟩:=DataW.trod_string Tryz.underlying9 t0
  obtain ⟨n1,g1,_,w1⟩:=DataW.trod_int Tryz.underlying3 t1
  obtain ⟨n2,g2,_,w2⟩:=DataW.trod_int Tryz.underlying22 t2
  obtain ⟨n3,g3,_,w3⟩:=DataW.trod_int Tryz.underlying3 t3
  obtain ⟨n4,g4,_,w4⟩:=DataW.trod_int Tryz.underlying3 t4
  obtain ⟨n5,g5,_,w5⟩:=DataW.trod_int Tryz.underlying3 t5
  obtain ⟨n6,g6,_,w6⟩:=DataW.trod_int Tryz.underlying3 t6
  obtain ⟨n7,g7,_,w7⟩:=DataW.trod_int Tryz.underlying22 t7
  obtain ⟨n8,g8,_,w8⟩:=DataW.trod_int Tryz.underlying3 t8
  simp only [List.cons.injEq,and_true] at g0 g1 g2 g3 g4 g5 g6 g7 g8
  subst g0 g1 g2 g3 g4 g5 g6 g7 g8
  have b2:0≤n2∧n2≤4294967295:=by simpa [Lit.wf,IntKind.min,IntKind.max,IntKind.signed,IntKind.bits] using w2
  have b7:0≤n7∧n7≤4294967295:=by simpa [Lit.wf,IntKind.min,IntKind.max,IntKind.signed,IntKind.bits] using w7
  unfold maxLen at w0
  refine ⟨⟨n0,n1,n2.toNat,n3,n4,n5,n6,n7.toNat,n8⟩,?_,by dsimp only; omega,by dsimp only; omega,by dsimp only; omega⟩
  unfold RecD.v
  dsimp only
  rw [show ((n2.toNat:Nat):Int)=n2 by omega,show ((n7.toNat:Nat):Int)=n7 by omega]
  congr 1
  apply Array.ext'
  simp only [Value.cells] at e0 e1 e2 e3 e4 e5 e6 e7 e8
  have hl:cs1.toList.length=9:=by simpa using hsz
  apply List.ext_getElem?
  intro i
  rcases (by omega:i=0∨i=1∨i=2∨i=3∨i=4∨i=5∨i=6∨i=7∨i=8∨9≤i) with rfl | rfl | rfl | rfl | rfl | rfl | rfl | rfl | rfl | h9
  · exact e0
  · exact e1
  · exact e2
  · exact e3
  · exact e4
  · exact e5
  · exact e6
  · exact e7
  · exact e8
  · rw [List.getElem?_eq_none (by omega),List.getElem?_eq_none (by simpa using h9)]
 obtain ⟨r,hv1,hsum1,ht1,hp1⟩:=hn1
 rw [hv1] at hW' k1 ⊢
 have hw:=Yx s0 r W hs0 hsum1 ht1 hp1
 clear hA0 hval0
 refine (hw).mono fun e W' ⟨he,hup⟩=>?_
 have bel:=hup.below
 subst he
 exact ⟨_,rfl,_,_,_,[],_,[],hW',trodAll_mk1 (shut_bool Tryz.underlying4 _),(trodAll_cons_mk (shut_string Tryz.underlying9 ws0) (trodAll_cons_mk (Below.trod laidOut (by kernel_rfl) (of_decide_eq_true (by kernel_rfl)) k1 bel lt1) trodAll_mk0)),rfl,bel.frame _,fun h=>by cases h⟩
theorem over:Rows.entryReadsRow.holds Tryz.pinned (OpenSpec.ofChange Rows.entryReadsSpec) :=
 OpenClaim.holds_of_wide 4 Tryz.f4 rfl rfl rfl rfl rfl rfl rfl ⟨rfl,rfl,rfl,rfl,rfl⟩ rfl rfl rfl rfl rfl (by kernel_rfl) Tryz.func4 (by kernel_rfl)
  (of_decide_eq_true (by kernel_rfl)) (by unfold Func.isWrapper; first | (rw [if_pos (by decide +kernel)]; kernel_rfl) | (rw [if_neg (by decide +kernel)]; exact ⟨rfl,rfl⟩))
  (fun os started H enc _=>lifted os started H enc)
theorem card_holds:Rows.EntryReadsCardSaid :=
 Claim7.holds_tied_plain_at .later [] [.data,.pinned] true (true,"738dfeaf736b814fc16da64adbe2bb4a6b20396c6f7ba8288970fce6cfac0ec9") true over (fun _ h=>by cases h) (by kernel_rfl) (fun _ h=>by cases h) entryReads_row_tie rfl ⟨rfl,rfl⟩ (by kernel_rfl) rfl
  (fun f fn hf hfn=>by
   obtain rfl:f=4:=Option.some.inj ((show Tryz.prog.funcNamed "swingle/swinglelaw22.EntryReads" = some 4 by kernel_rfl).symm.trans hf) |>.symm
   obtain rfl:fn=Tryz.f4:=(Option.some.inj (Tryz.func4.symm.trans hfn)).symm
   exact ⟨by kernel_rfl,fun j t ht=>by
    rw [Tryz.params4] at ht
    have hm:t∈[9,26]:=by simpa using Array.mem_of_getElem? ht
    have hall:([9,26].all fun u=>!Tryz.prog.wantsStandIn u)=true:=by kernel_rfl
    exact (show Tryz.prog.wantsStandIn t=false by simpa using List.all_eq_true.1 hall t hm)⟩)
  (by kernel_rfl)
theorem proved:Rows.EntryReadsSaid:=over
end Go.Proofs.YtfkcdnaghndgfaaGreatDoor.entryReads
namespace Go.Proofs.YtfkcdnaghndgfaaGreatDoor
theorem entryReadsCard_said:Rows.EntryReadsCardSaid:=entryReads.card_holds
#print axioms entryReadsCard_said
end Go.Proofs.YtfkcdnaghndgfaaGreatDoor
