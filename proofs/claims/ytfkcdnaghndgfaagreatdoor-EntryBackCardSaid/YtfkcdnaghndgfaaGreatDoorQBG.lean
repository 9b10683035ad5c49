/- A loop over an iterator that writes cells of its own between two rounds, where it is known what may come next: the contract, and the law of the loop (as SeqW). -/
import Derived.Test.YtfkcdnaghndgfaaGreatDoorQAM
import Derived.Deep.QuietTactic
import Derived.BigQuiet
import Derived.Sort.QuietIn
import Derived.Stop.RegionWithIn
import Derived.OwnWalkIn
import Derived.TacticsInMore
import Derived.LoopNIn
import Derived.LoopIn
import Derived.Sort.LoopGhostIn
import Derived.Test.YtfkcdnaghndgfaaGreatDoorQBF
import Derived.OrdersIn
import Derived.TacticsIn
import Derived.WalkKit
import Derived.RangeFuncCalls
import Derived.Deep.RegionHeld
import Derived.Test.YtfkcdnaghndgfaaGreatDoorQAP
set_option linter.unusedVariables false
set_option linter.unusedSimpArgs false
set_option linter.unusedSectionVars false
namespace Go.Proofs.YtfkcdnaghndgfaaGreatDoor
open Go.RowKit
def SeqN {α:Type} (P:Program) (g:Nat) (lb:Array Value) (encs:α→Array Value) (fp ks:List Nat) (S Sp:List α→Prop) (Nx:List α→α→Prop) (w:World):Prop :=
 ∀ (l:Nat) (J Jx:List α→World→Prop) (W:World),Upd [] w W→W.heap.size=w.heap.size+2→(∀ s A B,J s A→Own2 fp A B→J s B)→(∀ s A B,Jx s A→Own2 fp A B→Jx s B) →
  (∀ pre x W1,J pre W1→Nx pre x→(∀ k∈fp,k<W1.heap.size)→YieldAt Fence.wide 7 P l (encs x) W1 fun e W'=>(e = .returned (.bool true)∧J (pre++[x]) W'∧Keep ks W1 W')∨(e = .returned (.bool false)∧Jx (pre++[x]) W'))→J [] W →
  CallsIn Fence.wide 8 P g (#[.func (.yield l) #[] #[]]++lb) W fun e W'=>(∃ v,e = .returned v)∧((∃ xs,S xs∧J xs W')∨(∃ pre,Sp pre∧Jx pre W'))
section
variable {α:Type} {P:Program} {g:Operand} {ps:Array Tmp} {assign body:Code} {Q:Exit→Act→World→Prop} {a:Act} {w:World}
theorem zi0 {gf:Nat} {lb:Array Value} (hg:a.eval g = .func (.func gf) #[] lb) (eg : ∀ args w,(callFunc gf args).run P w = .ok (.enter gf args) w)
 {encs:α→Array Value} {fp ks:List Nat} {S Sp:List α→Prop} {Nx:List α→α→Prop} (hseq:SeqN P gf lb encs fp ks S Sp Nx w) (hks : ∀ k∈ks,k≠w.heap.size+1) (hps : ∀ x,(encs x).size=ps.size)
 (I:List α→World→Prop) (Ix:Code→List α→World→Prop) (Mid:List α→α→Act→World→Prop)
 (hI:OwnFrom w.heap.size I) (hIx : ∀ c,OwnFrom w.heap.size (Ix c)) (hMid : ∀ pre x a',OwnFrom w.heap.size (fun (_:Unit) W=>Mid pre x a' W))
 (hIw : ∀ s A B,I s A→Own2 fp A B→I s B) (hIxw : ∀ c s A B,Ix c s A→Own2 fp A B→Ix c s B) (h0:I [] w)
 (hassign : ∀ (l:Nat) (pre:List α) (x:α) (W:World) (K:Act→World→Prop),I pre W→w.heap.size≤W.heap.size→(∀ k∈fp,k<W.heap.size)→(∀ a' W',KeepsFrom w.heap.size W W'→Keep ks W W'→Mid pre x a' W'→K a' W') →
  assign.wpIn (Fence.wide.inRound l) 7 P (Exit.then K (fun _ _ _=>False)) { tmps:=(ps.zip (encs x)).foldl (fun t (p,v)=>t.setIfInBounds p v) a.tmps,defers:=[] } W)
 (hbody : ∀ (l:Nat) (pre:List α) (x:α) (a':Act) (W:World),w.heap.size≤W.heap.size→Mid pre x a' W→Nx pre x →
  body.wpIn (Fence.wide.inRound l) 7 P (ownPostG w.heap.size (Keep ks) I Ix (pre++[x]) W) a' W)
 (hdone : ∀ (D:Nat) (xs:List α) (W:World),w.heap.size≤D→S xs→I xs W→W.heap[D]? =some (.deferred (some []))→Q .normal { a with defers := { target := .collected D,args := #[] }::a.defers } W)
 (hstop : ∀ (D:Nat) (c:Code) (pre:List α) (W:World),w.heap.size≤D→Sp pre→Ix c pre W→W.heap[D]? =some (.deferred (some []))→c.wpIn Fence.wide 9 P Q { a with defers := { target := .collected D,args := #[] }::a.defers } W) :
 (Code.rangeFunc g ps assign body).wpIn Fence.wide 9 P Q a w:=by
 refine wpIn_rangeFunc fun fn hfn=>?_
 let rc:LoopState→Option Code→Loop:=fun s p => { state:=s,pending:=p,fn,tmps:=a.tmps,params:=ps,assign,body,defers:=w.heap.size }
 let wD:=w.alloc (.deferred (some []))
 let wL:=wD.alloc (.loop (rc .ready none))
 have zD:wD.heap.size=w.heap.size+1:=by simp [wD]
 have recL:wL.heap[w.heap.size+1]? =some (.loop (rc .ready none)):=by
  have:=World.alloc_heap_new wD (.loop (rc .ready none)); rwa [zD] at this
 have defL:wL.heap[w.heap.size]? =some (.deferred (some [])):=(Below.heap_alloc wD _ _ (by omega)).trans (World.alloc_heap_new w _)
 have iL:I [] wL:=hI.alloc _ (hI.alloc _ h0)
 have uL:Upd [] w wL:=((Upd.refl [] w).alloc _).alloc _
 refine ⟨w.heap.size+1,[{ target := .collected w.heap.size,args := #[] }],wL,{ target := .fn (.func gf) lb,args := #[.func (.yield (w.heap.size+1)) #[] #[]] },wL,gf,#[.func (.yield (w.heap.size+1)) #[] #[]]++lb,wL,run_enterLoop_outer _ _ _ _ _,by simp only [resolve,hg]; simp [go_sem],fun _ _=>trivial,by simp [invoke,go_sem,eg],(fun _=>by omega),?_⟩
 have kept : ∀ {A B:World} {k:Nat} {o:Obj},Own2 fp A B→A.heap[k]? =some o→o.isCells=false→B.heap[k]? =some o:=fun hAB h hc=>hAB.2.same _ _ h hc
 refine (hseq (w.heap.size+1)
  (fun s W=>I s W∧W.heap[w.heap.size+1]? =some (.loop (rc .ready none))∧W.heap[w.heap.size]? =some (.deferred (some [])))
  (fun s W => ∃ c,Ix c s W∧W.heap[w.heap.size+1]? =some (.loop (rc .done (some c)))∧W.heap[w.heap.size]? =some (.deferred (some [])))
  wL uL (by simp [wL,zD]) (fun s A B h hAB=>⟨hIw s A B h.1 hAB,kept hAB h.2.1 rfl,kept hAB h.2.2 rfl⟩)
  (fun s A B h hAB=>by obtain ⟨c,h1,h2,h3⟩:=h; exact ⟨c,hIxw c s A B h1 hAB,kept hAB h2 rfl,kept hAB h3 rfl⟩) ?round ⟨iL,recL,defL⟩).mono ?behind
 case round =>
  rintro pre x W ⟨hi,hr,hd⟩ hlen hfp
  have hsz:w.heap.size≤W.heap.size:=by have:=(Array.getElem?_eq_some_iff.1 hr).1; omega
  refine ⟨fn,_,assign,body,run_yield (r:=rc .ready none) hr (hps x),roundIn_of_wpIn hfn (hassign _ pre x W _ hi hsz hfp fun a' Wa hkf hkp hmid=>?_)⟩
  have hr1:=hkf.same _ _ (by omega) hr rfl
  have hd1:=hkf.same _ _ (Nat.le_refl _) hd rfl
  have hl1:w.heap.size+1<Wa.heap.size:=(Array.getElem?_eq_some_iff.1 hr1).1
  refine ⟨_,run_beginRound hr1 rfl,?_⟩
  let Wb:=Wa.putObj (w.heap.size+1) (.loop (rc .busy none))
  have hr2:Wb.heap[w.heap.size+1]? =some (.loop (rc .busy none)):=World.putObj_heap_same hl1
  have hd2:Wb.heap[w.heap.size]? =some (.deferred (some [])):=(World.putObj_heap_other (by omega)).trans hd1
  have hkb:Keep ks W Wb:=hkp.trans (Keep.putObj _ fun k hk=>hks k hk)
  have hmb:Mid pre x a' Wb:=(hMid pre x a').putObj (s:=()) _ hmid (by omega) hr1 rfl
  refine wpIn_mono (hbody _ pre x a' Wb (by show w.heap.size≤(Wa.putObj _ _).heap.size; simp; omega) hmb hlen) fun e a3 W3 hp=>?_
  have fin : ∀ (j:Option Code),KeepsFrom w.heap.size Wb W3 →
   (Instr.endRound (w.heap.size+1) j).run P W3 = .ok (.bool j.isNone) (W3.putObj (w.heap.size+1) (.loop (rc (if j.isNone then .ready else .done) j)))∧W3.heap[w.heap.size+1]? =some (.loop (rc .busy none)) ∧
   (W3.putObj (w.heap.size+1) (.loop (rc (if j.isNone then .ready else .done) j))).heap[w.heap.size+1]? =some (.loop (rc (if j.isNone then .ready else .done) j)) ∧
   (W3.putObj (w.heap.size+1) (.loop (rc (if j.isNone then .ready else .done) j))).heap[w.heap.size]? =some (.deferred (some [])):=fun j hk=>by
   have hr3:=hk.same _ _ (by omega) hr2 rfl
   exact ⟨run_endRound j hr3,hr3,World.putObj_heap_same (Array.getElem?_eq_some_iff.1 hr3).1,(World.putObj_heap_other (by omega)).trans (hk.same _ _ (Nat.le_refl _) hd2 rfl)⟩
  have out : ∀ (c:Code),KeepsFrom w.heap.size Wb W3∧Ix c (pre++[x]) W3 → ∃ v W4,(Instr.endRound (w.heap.size+1) (some c)).run P W3 = .ok v W4 ∧
   ((Ending.returned v = .returned (.bool true)∧(I (pre++[x]) W4∧W4.heap[w.heap.size+1]? =some (.loop (rc .ready none))∧W4.heap[w.heap.size]? =some (.deferred (some [])))∧Keep ks W W4) ∨
    (Ending.returned v = .returned (.bool false) ∧ ∃ c,Ix c (pre++[x]) W4∧W4.heap[w.heap.size+1]? =some (.loop (rc .done (some c)))∧W4.heap[w.heap.size]? =some (.deferred (some [])))):=fun c h=>by
   obtain ⟨hrun,hr3,hr4,hd4⟩:=fin (some c) h.1
   exact ⟨_,_,hrun,.inr ⟨rfl,c,(hIx c).putObj _ h.2 (by omega) hr3 rfl,hr4,hd4⟩⟩
  cases e with
  | normal =>
    obtain ⟨hrun,hr3,hr4,hd4⟩:=fin none hp.1
    exact ⟨_,_,hrun,.inl ⟨rfl,⟨hI.putObj _ hp.2.2 (by omega) hr3 rfl,hr4,hd4⟩,(hkb.trans hp.2.1).trans (Keep.putObj _ fun k hk=>hks k hk)⟩⟩
  | ret=>exact out .ret hp
  | exit id=>exact out (.exit id) hp
  | goto t=>exact out (.goto t) hp
  | panic ch=>exact hp.elim
  | outgrown=>exact hp.elim
 case behind =>
  rintro e W2 ⟨⟨v,rfl⟩,(⟨xs,hS,hi,hr,hd⟩ | ⟨pre,hSp,c,hi,hr,hd⟩)⟩
  · exact ⟨none,_,run_endLoop (r:=rc .ready none) hr (by simp [rc]),hdone _ xs _ (Nat.le_refl _) hS (hI.putObj _ hi (by omega) hr rfl) ((World.putObj_heap_other (by omega)).trans hd)⟩
  · exact ⟨some c,_,run_endLoop (r:=rc .done (some c)) hr (by simp [rc]),hstop _ c pre _ (Nat.le_refl _) hSp ((hIx c).putObj _ hi (by omega) hr rfl) ((World.putObj_heap_other (by omega)).trans hd)⟩
theorem zgK {gf:Nat} {lb:Array Value} (hg:a.eval g = .func (.func gf) #[] lb) (eg : ∀ args w,(callFunc gf args).run P w = .ok (.enter gf args) w)
 {encs:α→Array Value} {fp ks:List Nat} {S Sp:List α→Prop} {Nx:List α→α→Prop} (hseq:SeqN P gf lb encs fp ks S Sp Nx w) (hks : ∀ k∈ks,k≠w.heap.size+1) (hps : ∀ x,(encs x).size=ps.size)
 (I:List α→World→Prop) (Ix:Code→List α→World→Prop) (act:α→Act)
 (hI:OwnFrom w.heap.size I) (hIx : ∀ c,OwnFrom w.heap.size (Ix c)) (hIw : ∀ s A B,I s A→Own2 fp A B→I s B) (hIxw : ∀ c s A B,Ix c s A→Own2 fp A B→Ix c s B) (h0:I [] w)
 (hassign : ∀ (l:Nat) (x:α) (W:World) (K:Act→World→Prop),K (act x) W →
  assign.wpIn (Fence.wide.inRound l) 7 P (Exit.then K (fun _ _ _=>False)) { tmps:=(ps.zip (encs x)).foldl (fun t (p,v)=>t.setIfInBounds p v) a.tmps,defers:=[] } W)
 (hbody : ∀ (l:Nat) (pre:List α) (x:α) (W:World),w.heap.size≤W.heap.size→(∀ k∈fp,k<W.heap.size)→I pre W→Nx pre x →
  body.wpIn (Fence.wide.inRound l) 7 P (ownPostG w.heap.size (Keep ks) I Ix (pre++[x]) W) (act x) W)
 (hdone : ∀ (D:Nat) (xs:List α) (W:World),w.heap.size≤D→S xs→I xs W→W.heap[D]? =some (.deferred (some []))→Q .normal { a with defers := { target := .collected D,args := #[] }::a.defers } W)
 (hstop : ∀ (D:Nat) (c:Code) (pre:List α) (W:World),w.heap.size≤D→Sp pre→Ix c pre W→W.heap[D]? =some (.deferred (some []))→c.wpIn Fence.wide 9 P Q { a with defers := { target := .collected D,args := #[] }::a.defers } W) :
 (Code.rangeFunc g ps assign body).wpIn Fence.wide 9 P Q a w :=
 zi0 hg eg hseq hks hps I Ix (fun pre x a' W=>(I pre W ∧ ∀ k∈fp,k<W.heap.size)∧a'=act x) hI hIx
  (fun pre x a' _ A B row hs hg hr=>⟨⟨hI pre A B row hs.1.1 hg hr,fun k hk=>Nat.lt_of_lt_of_le (hs.1.2 k hk) hg.size⟩,hs.2⟩) hIw hIxw h0
  (fun l pre x W K hi hsz hfp hK=>hassign l x W K (hK _ _ (KeepsFrom.refl _ _) (Keep.refl _ _) ⟨⟨hi,hfp⟩,rfl⟩))
  (fun l pre x a' W hsz hm hlt=>by obtain ⟨⟨h1,h2⟩,rfl⟩:=hm; exact hbody l pre x W hsz h2 h1 hlt) hdone hstop
end
theorem SeqN.wide {α:Type} {P:Program} {g:Nat} {lb:Array Value} {encs:α→Array Value} {fp ks:List Nat} {S Sp:List α→Prop} {Nx:List α→α→Prop} {N:Nat} {w:World} (h:SeqN P g lb encs fp ks S Sp Nx w) (hN : ∀ pre x,Nx pre x→pre.length<N):zh9 P g lb encs fp ks S Sp N w :=
 fun l J Jx W hU hz hJ hJx hY h0=>h l J Jx W hU hz hJ hJx (fun pre x W1 h1 h2 h3=>hY pre x W1 h1 (hN pre x h2) h3) h0
end Go.Proofs.YtfkcdnaghndgfaaGreatDoor
namespace Go.Proofs.YtfkcdnaghndgfaaGreatDoor
open Go.RowKit Go.Maps
attribute [local go_sem] Oper.semAt_some
theorem Kf (fb i:Nat) (w:World):Calls Tryz.prog 126 #[.pointer (some ⟨fb,0,none⟩),.int .i64 (i:Nat)] w fun e w' =>
 e = .returned (.func (.func 163) #[] #[.pointer (some ⟨w.heap.size+1,0,none⟩),.pointer (some ⟨w.heap.size,0,none⟩)])∧w'=(w.alloc (.cells #[.pointer (some ⟨fb,0,none⟩)] 125)).alloc (.cells #[.int .i64 (i:Nat)] 3):=by
 go_enter Tryz.func126,Tryz.ntmps126
 go_wp2
 go_ret
 exact ⟨by simp,rfl⟩
theorem Row.keep {w w':World} {e:TypeId} {size:Nat} {v:Value} {n:Nat} {xs:List Value} {ks:List Nat} (h:Row w e size v n xs) (hk:Keep ks w w') (hv : ∀ k,v.ownBlock=some k→k∈ks):Row w' e size v n xs:=by
 refine ⟨h.1,?_⟩
 rcases h.2 with h2 | ⟨g,cap,cur,e1,hb,hg,hr⟩
 · exact .inl h2
 · exact .inr ⟨g,cap,cur,e1,hb,(hk.2 g (hv g (by rw [e1]; rfl))).trans hg,hr⟩
theorem FinR.keep {w w':World} {fb mb:Nat} {S:ByteArray} {v:Value} {m:Nat} {D:Int} {ks:List Nat} (h:FinR w fb mb S v m D) (hk:Keep ks w w') (hf:fb∈ks) (hv : ∀ k,v.ownBlock=some k→k∈ks):FinR w' fb mb S v m D:=by
 obtain ⟨a,⟨xs,c1,c2,c3⟩,d⟩:=h
 exact ⟨(hk.2 fb hf).trans a,⟨xs,c1,c2,c3.keep hk hv⟩,d⟩
set_option maxRecDepth 100000 in
set_option maxHeartbeats 4000000 in
theorem VU (S:ByteArray) (fb mb bi bf i:Nat) (v:Value) (m:Nat) (D:Int) (w:World) (hs:S.size≤65000) (hi:i≤S.size) (hD:0≤D∧D≤2000) (hm:m≤65000) (hF:FinAt w fb mb S v m D) (hbi:Blk w bi [.int .i64 (i:Nat)] 3) (hbf:Blk w bf [.pointer (some ⟨fb,0,none⟩)] 125) :
 SeqN Tryz.prog 163 #[.pointer (some ⟨bi,0,none⟩),.pointer (some ⟨bf,0,none⟩)] (fun p:Nat => #[.int .i64 (p:Nat)]) [] (bi::bf::fb::v.ownBlock.toList) (fun _=>True) (fun _=>True) (fun pre p=>p<m∧(i:Int)-(p:Int)≤32768) w:=by
 intro l J Jx W hU hz hJ hJx hY h0
 have HR:=Lib.hid (hF.1.upd hU (by simp) (by simp))
 obtain ⟨nm,hnm,hM⟩:=hF.2
 have HM:=Lib.hid (show JW W mb nm m from hM.upd hU (by simp))
 have HI:=Lib.hid (hbi.upd hU (by simp))
 have HF:=Lib.hid (hbf.upd hU (by simp))
 have HJ:=Lib.hid (fun s (A B:World) (h:J s A) (hu:Upd [] A B)=>hJ s A B h (Kr (fq:=[]) hu (fun k hk=>hk) (fun k hk=>by simp at hk)))
 have HY:=Lib.hid hY
 have HJ0:=Lib.hid h0
 clear hJ hY h0 hJx hU hz hF hM hbi hbf
 refine callsIn_of_wp Tryz.func163 rfl trivial ?_ rfl
 simp only [Tryz.ntmps163,List.size_toArray,List.length_cons,List.length_nil,Nat.reduceAdd,Nat.reduceSub,Array.replicate_succ,Array.replicate_zero,List.push_toArray,List.append_toArray,List.nil_append,List.cons_append]
 have c0:=HR.out.1.cell 0 rfl
 have ci:=HI.out.cell 0 rfl
 have cf:=HF.out.cell 0 rfl
 have hiw:IntKind.i64.wrap ((i:Int)+3)=(i:Int)+3:=by rw [IntWalk.i64_in _ (by omega)]
 by_cases h3:S.size<i+3
 · have h3z:(S.size:Int)<(i:Int)+3:=by omega
   gi_wp2_with fail
   gi_quiet (fail)
   have HJq:=Lib.hid (HJ.out _ _ _ HJ0.out ((Upd.refl [] W).drewN nq))
   generalize W.drewN nq=w4 at *
   gi_wp2
   refine bodyPost_ret (results_none rfl _ _ _) rfl ?_
   exact ⟨⟨_,rfl⟩,.inl ⟨[],trivial,HJq.out⟩⟩
 · have h3z : ¬ (S.size:Int)<(i:Int)+3:=by omega
   have h3m:i+3≤S.size:=by omega
   gi_wp2_with fail
   gi_quiet (fail)
   have hAq:Upd [] W (W.drewN nq):=(Upd.refl [] W).drewN nq
   have HJ1:=Lib.hid (HJ.out _ _ _ HJ0.out hAq)
   have HR1:=Lib.hid (HR.out.upd hAq (by simp) (by simp))
   have HM1:=Lib.hid (show JW _ mb nm m from HM.out.upd hAq (by simp))
   have HI1:=Lib.hid (HI.out.upd hAq (by simp))
   have HF1:=Lib.hid (HF.out.upd hAq (by simp))
   clear hAq HJ0 HR HM HI HF c0 ci cf
   generalize W.drewN nq=w4 at *
   have c0:=HR1.out.1.cell 0 rfl
   have ci:=HI1.out.cell 0 rfl
   have cf:=HF1.out.cell 0 rfl
   have HKY:=Lib.hid (YN S i fb _ _ _ w4 hs h3m HR1.out.1)
   obtain ⟨kl,hkl⟩:=zac S i h3m
   obtain ⟨X,Y,Z,hkv⟩ : ∃ X Y Z:Int,zch S i h3m = .agg #[.int .u8 X,.int .u8 Y,.int .u8 Z]:=⟨_,_,_,rfl⟩
   rw [hkv] at HKY hkl
   have HKL:=Lib.hid hkl
   clear hkl hkv
   gi_wp2_with fail
   refine ⟨trivial,(callsIn_wide.2 HKY.out).mono ?_⟩
   rintro e w2 ⟨rfl,hU2⟩
   have HJ2:=Lib.hid (HJ.out _ _ _ HJ1.out hU2)
   have HR2:=Lib.hid (HR1.out.upd hU2 (by simp) (by simp))
   have HM2:=Lib.hid (show JW _ mb nm m from HM1.out.upd hU2 (by simp))
   have HI2:=Lib.hid (HI1.out.upd hU2 (by simp))
   have HF2:=Lib.hid (HF1.out.upd hU2 (by simp))
   clear hU2 HKY HJ1 HR1 HM1 HI1 HF1 c0 ci cf
   gi_wp2_with fail
   have hA3:Upd [] w2 (w2.alloc (.cells #[.int .u8 X,.int .u8 Y,.int .u8 Z] 184)):=(Upd.refl [] w2).alloc _
   have HK3:=Lib.hid (Blk.new w2 [.int .u8 X,.int .u8 Y,.int .u8 Z] 184)
   have HJ3:=Lib.hid (HJ.out _ _ _ HJ2.out hA3)
   have HR3:=Lib.hid (HR2.out.upd hA3 (by simp) (by simp))
   have HM3:=Lib.hid (show JW _ mb nm m from HM2.out.upd hA3 (by simp))
   have HI3:=Lib.hid (HI2.out.upd hA3 (by simp))
   have HF3:=Lib.hid (HF2.out.upd hA3 (by simp))
   clear hA3 HJ2 HR2 HM2 HI2 HF2
   change Code.wpIn _ _ _ _ _ _ (w2.alloc (.cells #[.int .u8 X,.int .u8 Y,.int .u8 Z] 184))
   generalize w2.alloc (.cells #[.int .u8 X,.int .u8 Y,.int .u8 Z] 184)=w3 at *
   generalize w2.heap.size=kb at *
   have c1:=HR3.out.1.cell 1 rfl
   have cf:=HF3.out.cell 0 rfl
   have kA:=HK3.out.all
   rcases (show JW w3.drew mb nm m from HM3.out.upd ((Upd.refl [] w3).drew) (by simp)).look jR Tryz.underlying126 Tryz.underlying3 (zih _) HKL.out with hlk | ⟨p,hpm,hlk⟩
   · gi_region
     have HJ4:=Lib.hid (HJ.out _ _ _ HJ3.out ((Upd.refl [] w3).drew))
     clear c1 cf kA hlk HJ3 HR3 HM3 HI3 HF3 HK3 HKL
     generalize w3.drew=w4 at *
     gi_wp2
     refine bodyPost_ret (results_none rfl _ _ _) rfl ?_
     exact ⟨⟨_,rfl⟩,.inl ⟨[],trivial,HJ4.out⟩⟩
   · gi_region
     have hA4:Upd [] w3 w3.drew:=(Upd.refl [] w3).drew
     have HJ4:=Lib.hid (HJ.out _ _ _ HJ3.out hA4)
     have HR4:=Lib.hid (HR3.out.upd hA4 (by simp) (by simp))
     have HI4:=Lib.hid (HI3.out.upd hA4 (by simp))
     have HF4:=Lib.hid (HF3.out.upd hA4 (by simp))
     clear c1 cf kA hlk HJ3 HR3 HM3 HI3 HF3 HK3 HKL hA4
     generalize w3.drew=w4 at *
     obtain ⟨d,rfl⟩ : ∃ d:Nat,D=(d:Int):=⟨D.toNat,by omega⟩
     have hd2:d≤2000:=by omega
     gi_wp2
     gi_loopg [5,7] d (fun gg s5 s7 wr => ∃ (n:Nat) (z:Int) (pre:List Nat),n≤d∧gg=d-n∧s7 = .int .i64 (n:Nat)∧s5 = .int .i64 z∧(-1≤z∧z<m)∧Hid (J pre wr)∧Hid (FinR wr fb mb S v m (d:Int))∧Hid (Blk wr bi [.int .i64 (i:Nat)] 3)∧Hid (Blk wr bf [.pointer (some ⟨fb,0,none⟩)] 125))
     case atStart=>exact ⟨0,_,[],by omega,by omega,rfl,rfl,by omega,HJ4,HR4,HI4,HF4⟩
     case round =>
      obtain ⟨n,z,pre,hn,rfl,rfl,rfl,⟨hz1,hz2⟩,HJp,HRp,HIp,HFp⟩:=hrel
      clear HJ4 HR4 HI4 HF4
      have c3:=HRp.out.1.cell 3 rfl
      have ci:=HIp.out.cell 0 rfl
      have cf:=HFp.out.cell 0 rfl
      by_cases hnd:n<d
      · have hndz:(n:Int)<(d:Int):=by omega
        by_cases hz0:0≤z
        · obtain ⟨p,rfl⟩ : ∃ p:Nat,z=(p:Int):=⟨z.toNat,by omega⟩
          have hzw:IntKind.i64.wrap ((i:Int)-(p:Int))=(i:Int)-(p:Int):=by rw [IntWalk.i64_in _ (by omega)]
          by_cases hfar:(i:Int)-(p:Int)≤32768
          · have hpm:p<m:=by omega
            obtain ⟨fn,tmps,assign,body,hy,hRd⟩:=HY.out pre p wr HJp.out ⟨hpm,hfar⟩ (by simp)
            obtain ⟨hFB,⟨xs,hxl,hxb,hxr⟩,hno⟩:=HRp.out
            obtain ⟨gv,gc,hve,-,-⟩:=hxr.form' (by omega)
            rw [hve] at hxr
            have hpx:p<xs.length:=by omega
            have cp:=hxr.cell p (u := .int .i64 xs[p]) (by unfold zvs; rw [List.getElem?_map,List.getElem?_eq_getElem hpx]; rfl)
            have hxb2:=hxb xs[p] (List.getElem_mem hpx)
            generalize xs[p]=z' at *
            have HVE:=Lib.hid hve
            have hnw:IntKind.i64.wrap ((n:Int)+1)=((n+1:Nat):Int):=by rw [IntWalk.i64_in _ (by omega)]; rfl
            clear hFB hxl hxb hxr hno hpx hve
            gi_wp2
            refine hRd.mono ?_
            rintro e W3 (⟨rfl,hJ3,hk3⟩ | ⟨rfl,hJx3⟩)
            · have HJ3:=Lib.hid hJ3
              have HR3:=Lib.hid (HRp.out.keep hk3 (by simp) (fun k hk=>by simp [hk]))
              have HI3:=Lib.hid (show Blk W3 bi _ _ from (hk3.2 bi (by simp)).trans HIp.out)
              have HF3:=Lib.hid (show Blk W3 bf _ _ from (hk3.2 bf (by simp)).trans HFp.out)
              have cf3:=HF3.out.cell 0 rfl
              have c23:=HR3.out.1.cell 2 rfl
              rw [HVE.out] at c23
              have cp3:W3.cell? ⟨gv,p,none⟩=some (.int .i64 z'):=by
               have e:=hk3.2 gv (by simp [HVE.out,Value.ownBlock])
               rw [← cp]
               exact World.cell?_of_block (w:=wr) (w':=W3) (a:=⟨gv,p,none⟩) e
              have hpz:(p:Int)<(m:Int):=by omega
              clear hk3 hJ3 hRd cf c3 ci cp
              gi_wp2
              gi_roundg (d-(n+1))
              · exact ⟨n+1,z',pre++[p],by omega,by omega,by first | rfl | go_num,rfl,by omega,HJ3,HR3,HI3,HF3⟩
              · omega
            · have HJx3:=Lib.hid hJx3
              clear hJx3 hRd
              gi_wp2
              refine bodyPost_ret (results_none rfl _ _ _) rfl ?_
              first | exact ⟨⟨_,rfl⟩,.inr ⟨_,HJx3.out⟩⟩ | exact ⟨⟨_,rfl⟩,.inr ⟨_,trivial,HJx3.out⟩⟩
          · gi_wp2
            go_end0
            first | exact ⟨⟨_,rfl⟩,.inl ⟨pre,HJp.out⟩⟩ | exact ⟨⟨_,rfl⟩,.inl ⟨pre,trivial,HJp.out⟩⟩
        · gi_wp2
          go_end0
          first | exact ⟨⟨_,rfl⟩,.inl ⟨pre,HJp.out⟩⟩ | exact ⟨⟨_,rfl⟩,.inl ⟨pre,trivial,HJp.out⟩⟩
      · have hndz : ¬ (n:Int)<(d:Int):=by omega
        gi_wp2
        go_end0
        first | exact ⟨⟨_,rfl⟩,.inl ⟨pre,HJp.out⟩⟩ | exact ⟨⟨_,rfl⟩,.inl ⟨pre,trivial,HJp.out⟩⟩
end Go.Proofs.YtfkcdnaghndgfaaGreatDoor
namespace Go.Proofs.YtfkcdnaghndgfaaGreatDoor
open Go.RowKit
def kw (ops:Array Oper):Bool:=ops.all fun o=>match o.op with | .defer _=>false | _=>true
theorem YD {ops:Array Oper} (h:kw ops=true) {i:Nat} {o:Oper} (hi:ops[i]? =some o) : ∀ c,o.op ≠ .defer c:=by
 intro c e
 unfold kw at h
 rw [Array.all_eq_true] at h
 obtain ⟨hl,hg⟩:=Array.getElem?_eq_some_iff.1 hi
 have:=h i hl
 rw [hg,e] at this
 cases this
theorem zd9 {n l:Nat} {P:Program} {row:String} {args:Array Value} {w:World} {R:Value→World→Prop} (h:Rows P row args w R):RowsIn (Fence.wide.inRound l) n P row args w R:=by
 intro c cs _
 obtain ⟨v,w',hr,hs⟩:=h c cs
 refine ⟨v,w',hr,?_⟩
 rw [fenced_inRound]
 exact stepsIn_wide.2 hs
theorem zh7 {n l:Nat} {P:Program} {o:Oper} {a:Act} {w:World} {K:Act→World→Prop} {Q:Exit→Act→World→Prop} (hd : ∀ c,o.op ≠ .defer c) (h:o.wp P a w K Q):o.wpIn (Fence.wide.inRound l) n P a w K Q:=by
 refine ⟨fun _ _=>trivial,?_⟩
 rw [Oper.semAt_eq _ _ _ hd]
 unfold Oper.wp at h
 generalize (execOp a.eval o).run P w=r at h ⊢
 cases r with
 | ok x w' =>
   cases x with
   | value v=>exact h
   | skip=>exact h
   | defer d=>exact h
   | enter f args=>exact ⟨fun e=>by simp [Fence.inRound,Fence.wide] at e,CallsIn.inRound l ((callsIn_wide.2 h).mono fun e w'' he=>by cases e<;>exact he)⟩
   | row r args=>exact ⟨fun e=>by simp [Fence.inRound,Fence.wide] at e,zd9 h⟩
   | _=>exact h.elim
 | halt x w'=>cases x<;>exact h
theorem zez {n l:Nat} {P:Program} {ops:Array Oper} {Q:Exit→Act→World→Prop} (hno : ¬ LetsOut Q) (hd:kw ops=true) {i:Nat} {K:Act→World→Prop} {a:Act} {w:World} (h:wpOp P ops Q i K a w):wpOpIn (Fence.wide.inRound l) n P ops Q i K a w:=by
 unfold wpOp at h
 unfold wpOpIn
 cases hi:ops[i]? with
 | none=>rw [hi] at h; exact h
 | some o =>
   rw [hi] at h
   simp only at h ⊢
   by_cases hw:Region.wanted o (yielded ops a.tmps)=true
   · rw [if_pos hw] at h ⊢
     rcases h with h | h
     · exact zh7 (YD hd hi) h
     · exact absurd h.2 hno
   · rw [if_neg hw] at h ⊢
     exact ⟨fun _ _=>trivial,h⟩
theorem JO {n l:Nat} {P:Program} {md:Region.Mode} {ops:Array Oper} {Q:Exit→Act→World→Prop} (hno : ¬ LetsOut Q) (hd:kw ops=true) : ∀ (fuel:Nat) (listed:Array Bool) (a:Act) (w:World),wpAny P md ops Q fuel listed a w→wpAnyIn (Fence.wide.inRound l) n P md ops Q fuel listed a w
 | 0,_,_,_,h=>h
 | fuel+1,listed,a,w,h=>⟨h.1,fun i hi=>wpOpIn_mono (fun a' w' h'=>JO hno hd fuel _ a' w' h') (zez hno hd (h.2 i hi))⟩
theorem Yy {n l id:Nat} {P:Program} {ops:Array Oper} {Q:Exit→Act→World→Prop} {S:World→Prop} {a:Act} {w:World} (hm:P.follows .mixedOrders=true) (hd:kw ops=true) (hS:S w.drew)
 (h:S w.drew → ∀ K:Act→World→Prop,(∀ a w,Q .normal a w→K a w)→wpAnyH P .any ops (Exit.then K fun _ _ _=>False) S ops.size (Array.replicate ops.size false) a w.drew):(Code.region id ops true).wpIn (Fence.wide.inRound l) n P Q a w:=by
 refine wpIn_mono (wpIn_region_any hm (JO ?_ hd _ _ _ _ (wpAny_of_held _ _ _ _ (h hS (fun a w=>Q .normal a w) fun _ _ h=>h)))) ?_
 · rintro ⟨a,w,h⟩
   exact h
 · intro e a w h
   cases e<;>first | exact h | exact h.elim
end Go.Proofs.YtfkcdnaghndgfaaGreatDoor
