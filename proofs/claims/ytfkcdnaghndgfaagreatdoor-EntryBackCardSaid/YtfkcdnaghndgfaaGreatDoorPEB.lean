/- Proved: Rows.EntryBackCardSaid: called with any item and any two texts, the law EntryBack returns true and leaves its arguments as they were. No condition beyond the statement's own. -/
import Derived.ShutString
import Derived.ChangeOld
import Derived.Carry
import Derived.Test.YtfkcdnaghndgfaaGreatDoorTie
import Derived.Test.YtfkcdnaghndgfaaGreatDoorCards
import Derived.ProofKit
import Derived.OpenShut
import Derived.LaidMore
import Derived.Lay
import Derived.SevenTiedAt
import Derived.Stop.Joined
import Derived.Test.YtfkcdnaghndgfaaGreatDoorLawEB
import Derived.Test.YtfkcdnaghndgfaaGreatDoorQBA
set_option linter.unusedVariables false
set_option linter.unusedSimpArgs false
set_option linter.unusedSectionVars false
namespace Go.Proofs.YtfkcdnaghndgfaaGreatDoor.entryBack
open Go.ChangeShapes Go.WideShapes Go.ChangeAt Go.RowKit Go.Deep
open Go.ChangeMaps (open_string shut_string)
theorem own:ownKnob Tryz.prog.godebug=none:=by kernel_rfl
theorem laidOut:laidOutB Tryz.prog=true:=by kernel_rfl
def laidL:List (String×DataW Unit):=[("unicode/utf8.acceptRanges",Rows.laid_unicode_utf8_acceptRanges),("unicode/utf8.first",Rows.laid_unicode_utf8_first)]
set_option maxRecDepth 100000 in
theorem lifted (os:Os) (started:os.Started) (H:Type) (enc:TypeId×Value→H) :
 ReturnsInHanded {} Tryz.checked os 5 .any (fun w args=>(Rows.entryBackSpec.pre enc Tryz.prog Tryz.f5 Rows.entryBackRow.domain false w args∧laidMetH Tryz.prog laidL w)∧sizedMet enc Tryz.prog Tryz.f5 (OpenSpec.ofChange Rows.entryBackSpec) false w args)
  (Rows.entryBackSpec.post enc Tryz.prog Tryz.f5 false true false false):=by
 refine returnsInHanded_of_change_and (C:=Tryz.checked) (X:=fun w _=>laidMetH Tryz.prog laidL w) (fun _ _ _ hh h=>h.of_heap hh) own started (by kernel_rfl) Tryz.func5
  (ChangeSpec.witness_shaped (enc:=enc) (C:=Tryz.checked) (os:=os) (X:=fun w _=>laidMetH Tryz.prog laidL w) false (World.laidAll Tryz.prog os laidL) #[.agg #[.string ByteArray.empty,.int .i64 0,.int .i64 0,.int .u32 0,.string ByteArray.empty],.string ByteArray.empty,.string ByteArray.empty] 8 (World.laidAll_os _ _ _)
   (World.shaped_of_ZipB (by kernel_rfl) (by kernel_rfl)) (by kernel_rfl) (by kernel_rfl) (by kernel_rfl)
   (by rw [MakeChecks.laidMetH_plain _ _ _ (by kernel_rfl)]; exact laidMet_laidAll _ (by kernel_rfl) (by kernel_rfl))) ?_
 intro W base args ds gs before hval0 hW hcnd _ hL _
 have hval : ∀ (j:Nat) t v,Tryz.f5.params[j]? =some t→args[j]? =some v→Value.okWide Tryz.prog W .any base t v:=hval0
 have hW':=hW
 obtain ⟨p,q,hA0,hV,rfl,hfz,hnd⟩:=hW
 have hA:DataW.TrodAll enc Tryz.prog W 0 (fun _=>true) true Tryz.f5.params.toList args.toList ds p:=hA0
 rw [Tryz.params5] at hA hval
 obtain ⟨v0,vs0,d0,ds0,p0,q0,hargs,rfl,rfl,h0,r0⟩:=trodAll_cons hA
 obtain ⟨v1,vs1,d1,ds1,p1,q1,rfl,rfl,rfl,h1,r1⟩:=trodAll_cons r0
 obtain ⟨v2,vs2,d2,ds2,p2,q2,rfl,rfl,rfl,h2,r2⟩:=trodAll_cons r1
 obtain ⟨rfl,rfl,rfl⟩:=trodAll_nil r2
 obtain rfl:args = #[v0,v1,v2]:=by cases args; simp_all
 obtain ⟨rfl,rfl⟩:=trodVars_none hV
 obtain ⟨cs0,rfl,hcs0⟩:=okWide_struct Tryz.underlying43 (hval 0 43 v0 rfl rfl)
 have k0:=h0
 have lt0 : ∀ x∈p0,x.block<W.heap.size:=by obtain ⟨m,hm⟩:=k0; exact DataW.trod_lt m _ _ _ hm
 obtain ⟨fuel0,hf0⟩:=h0
 obtain ⟨s1,rfl,rfl,rfl,ws1⟩:=open_string Tryz.underlying9 (hval 1 9 v1 rfl rfl) h1
 obtain ⟨s2,rfl,rfl,rfl,ws2⟩:=open_string Tryz.underlying9 (hval 2 9 v2 rfl rfl) h2
 have hn0 : ∃ (p:ByteArray) (k m:Int) (t:Nat) (D:ByteArray),cs0 = #[.string p,.int .i64 k,.int .i64 m,.int .u32 (t:Nat),.string D]∧p.size≤9223372036854775807∧t<4294967296∧D.size≤9223372036854775807:=by
  have hsz:cs0.size=5:=hcs0.trans (by kernel_rfl)
  obtain ⟨ys,n,_,_,_,hyl,hf⟩:=DataW.trod_struct Tryz.underlying43 hf0
  have h0:=hf 0 _ rfl
  have h1:=hf 1 _ rfl
  have hyl2:ys.length=2:=hyl.trans (by kernel_rfl)
  rw [List.getElem?_eq_getElem (by omega)] at h0 h1
  clear hf
  obtain ⟨a,b,c,d,e,rfl⟩ : ∃ a b c d e,cs0 = #[a,b,c,d,e]:=by
   clear h0 h1 hf0 k0 lt0
   rcases cs0 with ⟨_ | ⟨a,_ | ⟨b,_ | ⟨c,_ | ⟨d,_ | ⟨e,_ | ⟨f,l⟩⟩⟩⟩⟩⟩⟩
   all_goals first | exact ⟨_,_,_,_,_,rfl⟩ | (exfalso; simp at hsz; done) | (exfalso; simp at hsz; omega)
  have q1:Tryz.prog.cellsOf 9=1:=by kernel_rfl
  have q4:Tryz.prog.cellsOf 24=4:=by kernel_rfl
  change DataW.trod enc Tryz.prog W 0 (fun _=>true) true n 9 (([a,b,c,d,e].drop 0).take (Tryz.prog.cellsOf 9))=some _ at h0
  change DataW.trod enc Tryz.prog W 0 (fun _=>true) true n 24 (([a,b,c,d,e].drop 1).take (Tryz.prog.cellsOf 24))=some _ at h1
  rw [q1] at h0
  rw [q4] at h1
  simp only [Value.cells,List.drop_zero,List.drop_succ_cons,List.take_succ_cons,List.take_zero] at h0 h1
  obtain ⟨v0,g0,_,w0⟩:=DataW.trod_string Tryz.underlying9 h0
  obtain ⟨m0,hj⟩:=zfo Tryz.underlying24 (by kernel_rfl) (by rfl) h1
  obtain ⟨u1,y1,e1,t1⟩:=hj 0 _ rfl
  obtain ⟨u2,y2,e2,t2⟩:=hj 1 _ rfl
  obtain ⟨u3,y3,e3,t3⟩:=hj 2 _ rfl
  obtain ⟨u4,y4,e4,t4⟩:=hj 3 _ rfl
  obtain ⟨n1,g1,_,w1⟩:=DataW.trod_int Tryz.underlying3 t1
  obtain ⟨n2,g2,_,w2⟩:=DataW.trod_int Tryz.underlying3 t2
  obtain ⟨n3,g3,_,w3⟩:=DataW.trod_int Tryz.underlying22 t3
  obtain ⟨n4,g4,_,w4⟩:=DataW.trod_string Tryz.underlying9 t4
  simp only [List.cons.injEq,and_true] at g0 g1 g2 g3 g4
  subst g0 g1 g2 g3 g4
  simp at e1 e2 e3 e4
  subst e1 e2 e3 e4
  have b3:0≤n3∧n3≤4294967295:=by simpa [Lit.wf,IntKind.min,IntKind.max,IntKind.signed,IntKind.bits] using w3
  unfold maxLen at w0 w4
  exact ⟨v0,n1,n2,n3.toNat,n4,by rw [show ((n3.toNat:Nat):Int)=n3 by omega],w0,by omega,w4⟩
 obtain ⟨pa,ka,ma,ta,Da,rfl,hpa,hta,hDa⟩:=hn0
 have hs1:s1.size≤9223372036854775807:=by have:=ws1; unfold maxLen at this; omega
 have hs2:s2.size≤9223372036854775807:=by have:=ws2; unfold maxLen at this; omega
 have hw:=YI pa ka ma ta Da s1 s2 W hpa hta hDa hs1 hs2
 clear hA0 hval0
 refine (hw).mono fun e W' ⟨he,hup⟩=>?_
 have bel:=hup.below
 subst he
 exact ⟨_,rfl,_,_,_,[],_,[],hW',trodAll_mk1 (shut_bool Tryz.underlying4 _),(trodAll_cons_mk (Below.trod laidOut (by kernel_rfl) (of_decide_eq_true (by kernel_rfl)) k0 bel lt0) (trodAll_cons_mk (shut_string Tryz.underlying9 ws1) (trodAll_cons_mk (shut_string Tryz.underlying9 ws2) trodAll_mk0))),rfl,bel.frame _,fun h=>by cases h⟩
theorem over:Rows.entryBackRow.holds Tryz.pinned (OpenSpec.ofChange Rows.entryBackSpec) :=
 OpenClaim.holds_of_wide 5 Tryz.f5 rfl rfl rfl rfl rfl rfl rfl ⟨rfl,rfl,rfl,rfl,rfl⟩ rfl rfl rfl rfl rfl (by kernel_rfl) Tryz.func5 (by kernel_rfl)
  (of_decide_eq_true (by kernel_rfl)) (by unfold Func.isWrapper; first | (rw [if_pos (by decide +kernel)]; kernel_rfl) | (rw [if_neg (by decide +kernel)]; exact ⟨rfl,rfl⟩))
  (fun os started H enc _=>lifted os started H enc)
theorem card_holds:Rows.EntryBackCardSaid :=
 Claim7.holds_tied_plain_at .later [] [.data,.pinned] true (true,"738dfeaf736b814fc16da64adbe2bb4a6b20396c6f7ba8288970fce6cfac0ec9") true over (fun _ h=>by cases h) (by kernel_rfl) (fun _ h=>by cases h) entryBack_row_tie rfl ⟨rfl,rfl⟩ (by kernel_rfl) rfl
  (fun f fn hf hfn=>by
   obtain rfl:f=5:=Option.some.inj ((show Tryz.prog.funcNamed "swingle/swinglelaw22.EntryBack" = some 5 by kernel_rfl).symm.trans hf) |>.symm
   obtain rfl:fn=Tryz.f5:=(Option.some.inj (Tryz.func5.symm.trans hfn)).symm
   exact ⟨by kernel_rfl,fun j t ht=>by
    rw [Tryz.params5] at ht
    have hm:t∈[43,9]:=by simpa using Array.mem_of_getElem? ht
    have hall:([43,9].all fun u=>!Tryz.prog.wantsStandIn u)=true:=by kernel_rfl
    exact (show Tryz.prog.wantsStandIn t=false by simpa using List.all_eq_true.1 hall t hm)⟩)
  (by kernel_rfl)
theorem proved:Rows.EntryBackSaid:=over
end Go.Proofs.YtfkcdnaghndgfaaGreatDoor.entryBack
namespace Go.Proofs.YtfkcdnaghndgfaaGreatDoor
theorem entryBackCard_said:Rows.EntryBackCardSaid:=entryBack.card_holds
#print axioms entryBackCard_said
end Go.Proofs.YtfkcdnaghndgfaaGreatDoor
