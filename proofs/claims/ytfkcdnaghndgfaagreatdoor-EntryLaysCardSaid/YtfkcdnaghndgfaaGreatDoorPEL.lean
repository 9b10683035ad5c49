/- Proved: Rows.EntryLaysCardSaid: called with any path, any node and any level, the law EntryLays returns true and leaves its arguments as they were. No condition beyond the statement's own. -/
import Derived.ShutString
import Derived.ChangeOld
import Derived.Carry
import Derived.Test.YtfkcdnaghndgfaaGreatDoorTie
import Derived.Test.YtfkcdnaghndgfaaGreatDoorCards
import Derived.ProofKit
import Derived.OpenShut
import Derived.LaidMore
import Derived.Lay
import Derived.SevenTiedAt
import Derived.Stop.Joined
import Derived.Test.YtfkcdnaghndgfaaGreatDoorQBY
import Derived.Test.YtfkcdnaghndgfaaGreatDoorQBB
set_option linter.unusedVariables false
set_option linter.unusedSimpArgs false
set_option linter.unusedSectionVars false
namespace Go.Proofs.YtfkcdnaghndgfaaGreatDoor.entryLays
open Go.ChangeShapes Go.WideShapes Go.ChangeAt Go.RowKit Go.Deep
open Go.ChangeMaps (open_string shut_string)
theorem own:ownKnob Tryz.prog.godebug=none:=by kernel_rfl
theorem laidOut:laidOutB Tryz.prog=true:=by kernel_rfl
def laidL:List (String×DataW Unit):=[("unicode/utf8.acceptRanges",Rows.laid_unicode_utf8_acceptRanges),("unicode/utf8.first",Rows.laid_unicode_utf8_first)]
set_option maxRecDepth 100000 in
theorem lifted (os:Os) (started:os.Started) (H:Type) (enc:TypeId×Value→H) :
 ReturnsInHanded {} Tryz.checked os 3 .any (fun w args=>(Rows.entryLaysSpec.pre enc Tryz.prog Tryz.f3 Rows.entryLaysRow.domain false w args∧laidMetH Tryz.prog laidL w)∧sizedMet enc Tryz.prog Tryz.f3 (OpenSpec.ofChange Rows.entryLaysSpec) false w args)
  (Rows.entryLaysSpec.post enc Tryz.prog Tryz.f3 false true false false):=by
 refine returnsInHanded_of_change_and (C:=Tryz.checked) (X:=fun w _=>laidMetH Tryz.prog laidL w) (fun _ _ _ hh h=>h.of_heap hh) own started (by kernel_rfl) Tryz.func3
  (ChangeSpec.witness_shaped (enc:=enc) (C:=Tryz.checked) (os:=os) (X:=fun w _=>laidMetH Tryz.prog laidL w) false (World.laidAll Tryz.prog os laidL) #[.string ByteArray.empty,.agg #[.int .i64 0,.int .i64 0,.int .u32 0,.string ByteArray.empty],.int .i64 0] 8 (World.laidAll_os _ _ _)
   (World.shaped_of_ZipB (by kernel_rfl) (by kernel_rfl)) (by kernel_rfl) (by kernel_rfl) (by kernel_rfl)
   (by rw [MakeChecks.laidMetH_plain _ _ _ (by kernel_rfl)]; exact laidMet_laidAll _ (by kernel_rfl) (by kernel_rfl))) ?_
 intro W base args ds gs before hval0 hW hcnd _ hL _
 have hval : ∀ (j:Nat) t v,Tryz.f3.params[j]? =some t→args[j]? =some v→Value.okWide Tryz.prog W .any base t v:=hval0
 have hW':=hW
 obtain ⟨p,q,hA0,hV,rfl,hfz,hnd⟩:=hW
 have hA:DataW.TrodAll enc Tryz.prog W 0 (fun _=>true) true Tryz.f3.params.toList args.toList ds p:=hA0
 rw [Tryz.params3] at hA hval
 obtain ⟨v0,vs0,d0,ds0,p0,q0,hargs,rfl,rfl,h0,r0⟩:=trodAll_cons hA
 obtain ⟨v1,vs1,d1,ds1,p1,q1,rfl,rfl,rfl,h1,r1⟩:=trodAll_cons r0
 obtain ⟨v2,vs2,d2,ds2,p2,q2,rfl,rfl,rfl,h2,r2⟩:=trodAll_cons r1
 obtain ⟨rfl,rfl,rfl⟩:=trodAll_nil r2
 obtain rfl:args = #[v0,v1,v2]:=by cases args; simp_all
 obtain ⟨rfl,rfl⟩:=trodVars_none hV
 obtain ⟨s0,rfl,rfl,rfl,ws0⟩:=open_string Tryz.underlying9 (hval 0 9 v0 rfl rfl) h0
 obtain ⟨cs1,rfl,hcs1⟩:=okWide_struct Tryz.underlying24 (hval 1 24 v1 rfl rfl)
 have k1:=h1
 have lt1 : ∀ x∈p1,x.block<W.heap.size:=by obtain ⟨m,hm⟩:=k1; exact DataW.trod_lt m _ _ _ hm
 obtain ⟨fuel1,hf1⟩:=h1
 obtain ⟨x2,rfl,rfl,rfl,wx2⟩:=open_int Tryz.underlying3 (hval 2 3 v2 rfl rfl) h2
 have hs0:s0.size≤9223372036854775807:=by have:=ws0; unfold maxLen at this; omega
 have hn1 : ∃ (k m:Int) (t:Nat) (D:ByteArray),cs1 = #[.int .i64 k,.int .i64 m,.int .u32 (t:Nat),.string D]∧t<4294967296∧D.size≤9223372036854775807:=by
  have hsz:cs1.size=4:=hcs1.trans (by kernel_rfl)
  obtain ⟨n,hj⟩:=zf5 Tryz.underlying24 (by kernel_rfl) (by simp only [Value.cells]; simpa using hsz) hf1
  obtain ⟨u0,y0,e0,t0⟩:=hj 0 _ rfl
  obtain ⟨u1,y1,e1,t1⟩:=hj 1 _ rfl
  obtain ⟨u2,y2,e2,t2⟩:=hj 2 _ rfl
  obtain ⟨u3,y3,e3,t3⟩:=hj 3 _ rfl
  obtain ⟨n0,g0,_,w0⟩:=DataW.trod_int Tryz.underlying3 t0
  obtain ⟨n1,g1,_,w1⟩:=DataW.trod_int Tryz.underlying3 t1
  obtain ⟨n2,g2,_,w2⟩:=DataW.trod_int Tryz.underlying22 t2
  obtain ⟨n3,g3,_,w3⟩:=DataW.trod_string Tryz.underlying9 t3
  simp only [List.cons.injEq,and_true] at g0 g1 g2 g3
  subst g0 g1 g2 g3
  have b2:0≤n2∧n2≤4294967295:=by simpa [Lit.wf,IntKind.min,IntKind.max,IntKind.signed,IntKind.bits] using w2
  unfold maxLen at w3
  refine ⟨n0,n1,n2.toNat,n3,?_,by omega,w3⟩
  rw [show ((n2.toNat:Nat):Int)=n2 by omega]
  apply Array.ext'
  simp only [Value.cells] at e0 e1 e2 e3
  have hl:cs1.toList.length=4:=by simpa using hsz
  apply List.ext_getElem?
  intro i
  rcases (by omega:i=0∨i=1∨i=2∨i=3∨4≤i) with rfl | rfl | rfl | rfl | h4
  · exact e0
  · exact e1
  · exact e2
  · exact e3
  · rw [List.getElem?_eq_none (by omega),List.getElem?_eq_none (by simpa using h4)]
 obtain ⟨ka,ma,ta,Da,rfl,hta,hDa⟩:=hn1
 have hx2 : -9223372036854775808≤x2∧x2≤9223372036854775807:=by simpa [Lit.wf,IntKind.min,IntKind.max,IntKind.signed,IntKind.bits] using wx2
 have hw:=YO s0 ka ma ta Da x2 W hs0 hta hDa hx2
 unfold qU at hw
 clear hA0 hval0
 refine (hw).mono fun e W' ⟨he,hup⟩=>?_
 have bel:=hup.below
 subst he
 exact ⟨_,rfl,_,_,_,[],_,[],hW',trodAll_mk1 (shut_bool Tryz.underlying4 _),(trodAll_cons_mk (shut_string Tryz.underlying9 ws0) (trodAll_cons_mk (Below.trod laidOut (by kernel_rfl) (of_decide_eq_true (by kernel_rfl)) k1 bel lt1) (trodAll_cons_mk (shut_int Tryz.underlying3 wx2) trodAll_mk0))),rfl,bel.frame _,fun h=>by cases h⟩
theorem over:Rows.entryLaysRow.holds Tryz.pinned (OpenSpec.ofChange Rows.entryLaysSpec) :=
 OpenClaim.holds_of_wide 3 Tryz.f3 rfl rfl rfl rfl rfl rfl rfl ⟨rfl,rfl,rfl,rfl,rfl⟩ rfl rfl rfl rfl rfl (by kernel_rfl) Tryz.func3 (by kernel_rfl)
  (of_decide_eq_true (by kernel_rfl)) (by unfold Func.isWrapper; first | (rw [if_pos (by decide +kernel)]; kernel_rfl) | (rw [if_neg (by decide +kernel)]; exact ⟨rfl,rfl⟩))
  (fun os started H enc _=>lifted os started H enc)
theorem card_holds:Rows.EntryLaysCardSaid :=
 Claim7.holds_tied_plain_at .later [] [.data,.pinned] true (true,"738dfeaf736b814fc16da64adbe2bb4a6b20396c6f7ba8288970fce6cfac0ec9") true over (fun _ h=>by cases h) (by kernel_rfl) (fun _ h=>by cases h) entryLays_row_tie rfl ⟨rfl,rfl⟩ (by kernel_rfl) rfl
  (fun f fn hf hfn=>by
   obtain rfl:f=3:=Option.some.inj ((show Tryz.prog.funcNamed "swingle/swinglelaw22.EntryLays" = some 3 by kernel_rfl).symm.trans hf) |>.symm
   obtain rfl:fn=Tryz.f3:=(Option.some.inj (Tryz.func3.symm.trans hfn)).symm
   exact ⟨by kernel_rfl,fun j t ht=>by
    rw [Tryz.params3] at ht
    have hm:t∈[9,24,3]:=by simpa using Array.mem_of_getElem? ht
    have hall:([9,24,3].all fun u=>!Tryz.prog.wantsStandIn u)=true:=by kernel_rfl
    exact (show Tryz.prog.wantsStandIn t=false by simpa using List.all_eq_true.1 hall t hm)⟩)
  (by kernel_rfl)
theorem proved:Rows.EntryLaysSaid:=over
end Go.Proofs.YtfkcdnaghndgfaaGreatDoor.entryLays
namespace Go.Proofs.YtfkcdnaghndgfaaGreatDoor
theorem entryLaysCard_said:Rows.EntryLaysCardSaid:=entryLays.card_holds
#print axioms entryLaysCard_said
end Go.Proofs.YtfkcdnaghndgfaaGreatDoor
