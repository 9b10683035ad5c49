/- A loop over an iterator that writes cells of its own between two rounds, where it is known what may come next: the contract, and the law of the loop (as SeqW). -/
import Derived.Test.YtfkcdnaghndgfaaGreatDoorQAN
import Derived.Deep.QuietTactic
import Derived.BigQuiet
import Derived.Sort.QuietIn
import Derived.Stop.RegionWithIn
import Derived.OwnWalkIn
import Derived.TacticsInMore
import Derived.LoopNIn
import Derived.LoopIn
import Derived.Sort.LoopGhostIn
import Derived.Test.YtfkcdnaghndgfaaGreatDoorQBN
import Derived.OrdersIn
import Derived.TacticsIn
import Derived.WalkKit
import Derived.RangeFuncCalls
import Derived.Deep.RegionHeld
import Derived.Test.YtfkcdnaghndgfaaGreatDoorQAQ
import Derived.Test.YtfkcdnaghndgfaaGreatDoorQBU
import Derived.Test.YtfkcdnaghndgfaaGreatDoorQAP
import Derived.Test.YtfkcdnaghndgfaaGreatDoorQBR
set_option linter.unusedVariables false
set_option linter.unusedSimpArgs false
set_option linter.unusedSectionVars false
namespace Go.Proofs.YtfkcdnaghndgfaaGreatDoor
open Go.RowKit
def SeqN {α:Type} (P:Program) (g:Nat) (lb:Array Value) (encs:α→Array Value) (fp ks:List Nat) (S Sp:List α→Prop) (Nx:List α→α→Prop) (w:World):Prop :=
 ∀ (l:Nat) (J Jx:List α→World→Prop) (W:World),Upd [] w W→W.heap.size=w.heap.size+2→(∀ s A B,J s A→Own2 fp A B→J s B)→(∀ s A B,Jx s A→Own2 fp A B→Jx s B) →
  (∀ pre x W1,J pre W1→Nx pre x→(∀ k∈fp,k<W1.heap.size)→YieldAt Fence.wide 7 P l (encs x) W1 fun e W'=>(e = .returned (.bool true)∧J (pre++[x]) W'∧Keep ks W1 W')∨(e = .returned (.bool false)∧Jx (pre++[x]) W'))→J [] W →
  CallsIn Fence.wide 8 P g (#[.func (.yield l) #[] #[]]++lb) W fun e W'=>(∃ v,e = .returned v)∧((∃ xs,S xs∧J xs W')∨(∃ pre,Sp pre∧Jx pre W'))
section
variable {α:Type} {P:Program} {g:Operand} {ps:Array Tmp} {assign body:Code} {Q:Exit→Act→World→Prop} {a:Act} {w:World}
theorem zi0 {gf:Nat} {lb:Array Value} (hg:a.eval g = .func (.func gf) #[] lb) (eg : ∀ args w,(callFunc gf args).run P w = .ok (.enter gf args) w)
 {encs:α→Array Value} {fp ks:List Nat} {S Sp:List α→Prop} {Nx:List α→α→Prop} (hseq:SeqN P gf lb encs fp ks S Sp Nx w) (hks : ∀ k∈ks,k≠w.heap.size+1) (hps : ∀ x,(encs x).size=ps.size)
 (I:List α→World→Prop) (Ix:Code→List α→World→Prop) (Mid:List α→α→Act→World→Prop)
 (hI:OwnFrom w.heap.size I) (hIx : ∀ c,OwnFrom w.heap.size (Ix c)) (hMid : ∀ pre x a',OwnFrom w.heap.size (fun (_:Unit) W=>Mid pre x a' W))
 (hIw : ∀ s A B,I s A→Own2 fp A B→I s B) (hIxw : ∀ c s A B,Ix c s A→Own2 fp A B→Ix c s B) (h0:I [] w)
 (hassign : ∀ (l:Nat) (pre:List α) (x:α) (W:World) (K:Act→World→Prop),I pre W→w.heap.size≤W.heap.size→(∀ k∈fp,k<W.heap.size)→(∀ a' W',KeepsFrom w.heap.size W W'→Keep ks W W'→Mid pre x a' W'→K a' W') →
  assign.wpIn (Fence.wide.inRound l) 7 P (Exit.then K (fun _ _ _=>False)) { tmps:=(ps.zip (encs x)).foldl (fun t (p,v)=>t.setIfInBounds p v) a.tmps,defers:=[] } W)
 (hbody : ∀ (l:Nat) (pre:List α) (x:α) (a':Act) (W:World),w.heap.size≤W.heap.size→Mid pre x a' W→Nx pre x →
  body.wpIn (Fence.wide.inRound l) 7 P (ownPostG w.heap.size (Keep ks) I Ix (pre++[x]) W) a' W)
 (hdone : ∀ (D:Nat) (xs:List α) (W:World),w.heap.size≤D→S xs→I xs W→W.heap[D]? =some (.deferred (some []))→Q .normal { a with defers := { target := .collected D,args := #[] }::a.defers } W)
 (hstop : ∀ (D:Nat) (c:Code) (pre:List α) (W:World),w.heap.size≤D→Sp pre→Ix c pre W→W.heap[D]? =some (.deferred (some []))→c.wpIn Fence.wide 9 P Q { a with defers := { target := .collected D,args := #[] }::a.defers } W) :
 (Code.rangeFunc g ps assign body).wpIn Fence.wide 9 P Q a w:=by
 refine wpIn_rangeFunc fun fn hfn=>?_
 let rc:LoopState→Option Code→Loop:=fun s p => { state:=s,pending:=p,fn,tmps:=a.tmps,params:=ps,assign,body,defers:=w.heap.size }
 let wD:=w.alloc (.deferred (some []))
 let wL:=wD.alloc (.loop (rc .ready none))
 have zD:wD.heap.size=w.heap.size+1:=by simp [wD]
 have recL:wL.heap[w.heap.size+1]? =some (.loop (rc .ready none)):=by
  have:=World.alloc_heap_new wD (.loop (rc .ready none)); rwa [zD] at this
 have defL:wL.heap[w.heap.size]? =some (.deferred (some [])):=(Below.heap_alloc wD _ _ (by omega)).trans (World.alloc_heap_new w _)
 have iL:I [] wL:=hI.alloc _ (hI.alloc _ h0)
 have uL:Upd [] w wL:=((Upd.refl [] w).alloc _).alloc _
 refine ⟨w.heap.size+1,[{ target := .collected w.heap.size,args := #[] }],wL,{ target := .fn (.func gf) lb,args := #[.func (.yield (w.heap.size+1)) #[] #[]] },wL,gf,#[.func (.yield (w.heap.size+1)) #[] #[]]++lb,wL,run_enterLoop_outer _ _ _ _ _,by simp only [resolve,hg]; simp [go_sem],fun _ _=>trivial,by simp [invoke,go_sem,eg],(fun _=>by omega),?_⟩
 have kept : ∀ {A B:World} {k:Nat} {o:Obj},Own2 fp A B→A.heap[k]? =some o→o.isCells=false→B.heap[k]? =some o:=fun hAB h hc=>hAB.2.same _ _ h hc
 refine (hseq (w.heap.size+1)
  (fun s W=>I s W∧W.heap[w.heap.size+1]? =some (.loop (rc .ready none))∧W.heap[w.heap.size]? =some (.deferred (some [])))
  (fun s W => ∃ c,Ix c s W∧W.heap[w.heap.size+1]? =some (.loop (rc .done (some c)))∧W.heap[w.heap.size]? =some (.deferred (some [])))
  wL uL (by simp [wL,zD]) (fun s A B h hAB=>⟨hIw s A B h.1 hAB,kept hAB h.2.1 rfl,kept hAB h.2.2 rfl⟩)
  (fun s A B h hAB=>by obtain ⟨c,h1,h2,h3⟩:=h; exact ⟨c,hIxw c s A B h1 hAB,kept hAB h2 rfl,kept hAB h3 rfl⟩) ?round ⟨iL,recL,defL⟩).mono ?behind
 case round =>
  rintro pre x W ⟨hi,hr,hd⟩ hlen hfp
  have hsz:w.heap.size≤W.heap.size:=by have:=(Array.getElem?_eq_some_iff.1 hr).1; omega
  refine ⟨fn,_,assign,body,run_yield (r:=rc .ready none) hr (hps x),roundIn_of_wpIn hfn (hassign _ pre x W _ hi hsz hfp fun a' Wa hkf hkp hmid=>?_)⟩
  have hr1:=hkf.same _ _ (by omega) hr rfl
  have hd1:=hkf.same _ _ (Nat.le_refl _) hd rfl
  have hl1:w.heap.size+1<Wa.heap.size:=(Array.getElem?_eq_some_iff.1 hr1).1
  refine ⟨_,run_beginRound hr1 rfl,?_⟩
  let Wb:=Wa.putObj (w.heap.size+1) (.loop (rc .busy none))
  have hr2:Wb.heap[w.heap.size+1]? =some (.loop (rc .busy none)):=World.putObj_heap_same hl1
  have hd2:Wb.heap[w.heap.size]? =some (.deferred (some [])):=(World.putObj_heap_other (by omega)).trans hd1
  have hkb:Keep ks W Wb:=hkp.trans (Keep.putObj _ fun k hk=>hks k hk)
  have hmb:Mid pre x a' Wb:=(hMid pre x a').putObj (s:=()) _ hmid (by omega) hr1 rfl
  refine wpIn_mono (hbody _ pre x a' Wb (by show w.heap.size≤(Wa.putObj _ _).heap.size; simp; omega) hmb hlen) fun e a3 W3 hp=>?_
  have fin : ∀ (j:Option Code),KeepsFrom w.heap.size Wb W3 →
   (Instr.endRound (w.heap.size+1) j).run P W3 = .ok (.bool j.isNone) (W3.putObj (w.heap.size+1) (.loop (rc (if j.isNone then .ready else .done) j)))∧W3.heap[w.heap.size+1]? =some (.loop (rc .busy none)) ∧
   (W3.putObj (w.heap.size+1) (.loop (rc (if j.isNone then .ready else .done) j))).heap[w.heap.size+1]? =some (.loop (rc (if j.isNone then .ready else .done) j)) ∧
   (W3.putObj (w.heap.size+1) (.loop (rc (if j.isNone then .ready else .done) j))).heap[w.heap.size]? =some (.deferred (some [])):=fun j hk=>by
   have hr3:=hk.same _ _ (by omega) hr2 rfl
   exact ⟨run_endRound j hr3,hr3,World.putObj_heap_same (Array.getElem?_eq_some_iff.1 hr3).1,(World.putObj_heap_other (by omega)).trans (hk.same _ _ (Nat.le_refl _) hd2 rfl)⟩
  have out : ∀ (c:Code),KeepsFrom w.heap.size Wb W3∧Ix c (pre++[x]) W3 → ∃ v W4,(Instr.endRound (w.heap.size+1) (some c)).run P W3 = .ok v W4 ∧
   ((Ending.returned v = .returned (.bool true)∧(I (pre++[x]) W4∧W4.heap[w.heap.size+1]? =some (.loop (rc .ready none))∧W4.heap[w.heap.size]? =some (.deferred (some [])))∧Keep ks W W4) ∨
    (Ending.returned v = .returned (.bool false) ∧ ∃ c,Ix c (pre++[x]) W4∧W4.heap[w.heap.size+1]? =some (.loop (rc .done (some c)))∧W4.heap[w.heap.size]? =some (.deferred (some [])))):=fun c h=>by
   obtain ⟨hrun,hr3,hr4,hd4⟩:=fin (some c) h.1
   exact ⟨_,_,hrun,.inr ⟨rfl,c,(hIx c).putObj _ h.2 (by omega) hr3 rfl,hr4,hd4⟩⟩
  cases e with
  | normal =>
    obtain ⟨hrun,hr3,hr4,hd4⟩:=fin none hp.1
    exact ⟨_,_,hrun,.inl ⟨rfl,⟨hI.putObj _ hp.2.2 (by omega) hr3 rfl,hr4,hd4⟩,(hkb.trans hp.2.1).trans (Keep.putObj _ fun k hk=>hks k hk)⟩⟩
  | ret=>exact out .ret hp
  | exit id=>exact out (.exit id) hp
  | goto t=>exact out (.goto t) hp
  | panic ch=>exact hp.elim
  | outgrown=>exact hp.elim
 case behind =>
  rintro e W2 ⟨⟨v,rfl⟩,(⟨xs,hS,hi,hr,hd⟩ | ⟨pre,hSp,c,hi,hr,hd⟩)⟩
  · exact ⟨none,_,run_endLoop (r:=rc .ready none) hr (by simp [rc]),hdone _ xs _ (Nat.le_refl _) hS (hI.putObj _ hi (by omega) hr rfl) ((World.putObj_heap_other (by omega)).trans hd)⟩
  · exact ⟨some c,_,run_endLoop (r:=rc .done (some c)) hr (by simp [rc]),hstop _ c pre _ (Nat.le_refl _) hSp ((hIx c).putObj _ hi (by omega) hr rfl) ((World.putObj_heap_other (by omega)).trans hd)⟩
theorem ziI {gf:Nat} {lb:Array Value} (hg:a.eval g = .func (.func gf) #[] lb) (eg : ∀ args w,(callFunc gf args).run P w = .ok (.enter gf args) w)
 {encs:α→Array Value} {fp ks:List Nat} {S Sp:List α→Prop} {Nx:List α→α→Prop} (hseq:SeqN P gf lb encs fp ks S Sp Nx w) (hks : ∀ k∈ks,k≠w.heap.size+1) (hps : ∀ x,(encs x).size=ps.size)
 (I:List α→World→Prop) (Ix:Code→List α→World→Prop) (act:α→Act)
 (hI:OwnFrom w.heap.size I) (hIx : ∀ c,OwnFrom w.heap.size (Ix c)) (hIw : ∀ s A B,I s A→Own2 fp A B→I s B) (hIxw : ∀ c s A B,Ix c s A→Own2 fp A B→Ix c s B) (h0:I [] w)
 (hassign : ∀ (l:Nat) (x:α) (W:World) (K:Act→World→Prop),K (act x) W →
  assign.wpIn (Fence.wide.inRound l) 7 P (Exit.then K (fun _ _ _=>False)) { tmps:=(ps.zip (encs x)).foldl (fun t (p,v)=>t.setIfInBounds p v) a.tmps,defers:=[] } W)
 (hbody : ∀ (l:Nat) (pre:List α) (x:α) (W:World),w.heap.size≤W.heap.size→(∀ k∈fp,k<W.heap.size)→I pre W→Nx pre x →
  body.wpIn (Fence.wide.inRound l) 7 P (ownPostG w.heap.size (Keep ks) I Ix (pre++[x]) W) (act x) W)
 (hdone : ∀ (D:Nat) (xs:List α) (W:World),w.heap.size≤D→S xs→I xs W→W.heap[D]? =some (.deferred (some []))→Q .normal { a with defers := { target := .collected D,args := #[] }::a.defers } W)
 (hstop : ∀ (D:Nat) (c:Code) (pre:List α) (W:World),w.heap.size≤D→Sp pre→Ix c pre W→W.heap[D]? =some (.deferred (some []))→c.wpIn Fence.wide 9 P Q { a with defers := { target := .collected D,args := #[] }::a.defers } W) :
 (Code.rangeFunc g ps assign body).wpIn Fence.wide 9 P Q a w :=
 zi0 hg eg hseq hks hps I Ix (fun pre x a' W=>(I pre W ∧ ∀ k∈fp,k<W.heap.size)∧a'=act x) hI hIx
  (fun pre x a' _ A B row hs hg hr=>⟨⟨hI pre A B row hs.1.1 hg hr,fun k hk=>Nat.lt_of_lt_of_le (hs.1.2 k hk) hg.size⟩,hs.2⟩) hIw hIxw h0
  (fun l pre x W K hi hsz hfp hK=>hassign l x W K (hK _ _ (KeepsFrom.refl _ _) (Keep.refl _ _) ⟨⟨hi,hfp⟩,rfl⟩))
  (fun l pre x a' W hsz hm hlt=>by obtain ⟨⟨h1,h2⟩,rfl⟩:=hm; exact hbody l pre x W hsz h2 h1 hlt) hdone hstop
end
theorem SeqN.wide {α:Type} {P:Program} {g:Nat} {lb:Array Value} {encs:α→Array Value} {fp ks:List Nat} {S Sp:List α→Prop} {Nx:List α→α→Prop} {N:Nat} {w:World} (h:SeqN P g lb encs fp ks S Sp Nx w) (hN : ∀ pre x,Nx pre x→pre.length<N):zhB P g lb encs fp ks S Sp N w :=
 fun l J Jx W hU hz hJ hJx hY h0=>h l J Jx W hU hz hJ hJx (fun pre x W1 h1 h2 h3=>hY pre x W1 h1 (hN pre x h2) h3) h0
end Go.Proofs.YtfkcdnaghndgfaaGreatDoor
namespace Go.Proofs.YtfkcdnaghndgfaaGreatDoor
open Go.RowKit
attribute [local go_sem] Oper.semAt_some
theorem zfx (a:Option Addr) (n c:Nat) (w:World):Calls Tryz.prog 75 #[.slice a n c] w fun e w' =>
 e = .returned (.func (.func 118) #[] #[.pointer (some ⟨w.heap.size,0,none⟩)])∧w'=w.alloc (.cells #[.slice a n c] 70):=by
 go_enter Tryz.func75,Tryz.ntmps75
 go_wp2
 go_ret
 exact ⟨rfl,rfl⟩
def xD (n:Nat):Nat:=if n=0 then 1 else (n+7999)/8000
def zf8 (g o n cap q:Nat):Array Value := #[.slice (some ⟨g,o+24000*q,none⟩) (min (n-8000*q) 8000) (cap-8000*q),.bool (decide (q+1=xD n))]
theorem jF (q:Nat):List.range (q+1)=List.range q++[q]:=List.range_succ
theorem zdX {a b:Nat} (h:a≤b):List.range a <+: List.range b:=by
 induction h with
 | refl=>exact List.prefix_refl _
 | step _ ih=>exact ih.trans ⟨_,(jF _).symm⟩
set_option maxRecDepth 100000 in
set_option maxHeartbeats 2000000 in
theorem zb3 (Bs g o n cap:Nat) (w:World) (hB:Blk w Bs [.slice (some ⟨g,o,none⟩) n cap] 70) (hn:n≤1000000) (hc:n≤cap) (hcm:cap≤9223372036854775807) :
 SeqN Tryz.prog 118 #[.pointer (some ⟨Bs,0,none⟩)] (fun q:Nat=>zf8 g o n cap q) [Bs] [Bs] (fun xs=>xs=List.range (xD n)) (fun pre=>pre <+: List.range (xD n)) (fun pre q=>pre=List.range q∧q<xD n) w:=by
 intro l J Jx W hU hz hJ hJx hY h0
 have b1:Blk W Bs [.slice (some ⟨g,o,none⟩) n cap] 70:=hB.upd hU (by simp)
 have HJ:=Lib.hid hJ
 have HY:=Lib.hid hY
 have HJ0:=Lib.hid h0
 clear hJ hY h0 hJx hU hz hB
 have HB:=Lib.hid b1
 clear b1
 refine callsIn_of_wp Tryz.func118 rfl trivial ?_ rfl
 simp only [Tryz.ntmps118,List.size_toArray,List.length_cons,List.length_nil,Nat.reduceAdd,Nat.reduceSub,Array.replicate_succ,Array.replicate_zero,List.push_toArray,List.append_toArray,List.nil_append,List.cons_append]
 obtain ⟨R,hR⟩ : ∃ R,xD n=R:=⟨_,rfl⟩
 have HR:=Lib.hid hR
 rw [hR] at HY ⊢
 have hRp:0<R:=by rw [← hR]; unfold xD; split<;>omega
 clear hR
 gi_wp2
 gi_loopg [] R (fun gg wr => ∃ q:Nat,q<R∧gg=R-q∧Hid (8000*q≤n)∧Hid (J (List.range q) wr)∧Hid (Blk wr Bs [.slice (some ⟨g,o+24000*q,none⟩) (n-8000*q) (cap-8000*q)] 70))
 case atStart=>exact ⟨0,hRp,rfl,Lib.hid (by omega),HJ0,HB⟩
 case round =>
  obtain ⟨q,hq,rfl,HQ,HJq,HBq⟩:=hrel
  clear HB HJ0
  have c1:=HBq.out.cell 0 rfl
  have HRV:Hid (zf8 g o n cap q = #[.slice (some ⟨g,o+24000*q,none⟩) (min (n-8000*q) 8000) (cap-8000*q),.bool (decide (q+1=R))]):=Lib.hid (by unfold zf8; rw [HR.out])
  have HQ2:Hid (8000*q≤n∧n≤cap∧(q+1=R↔n-8000*q≤8000)∧cap≤9223372036854775807):=Lib.hid ⟨HQ.out,hc,by have h1:=HR.out; have:=HQ.out; unfold xD at h1; split at h1<;>omega,hcm⟩
  have HN1:Hid ((o+24000*q)+24000=o+24000*(q+1)∧n-8000*q-8000=n-8000*(q+1)∧cap-8000*q-8000=cap-8000*(q+1)):=Lib.hid (by omega)
  obtain ⟨fn,tmps,assign,body,hy,hRd⟩:=HY.out (List.range q) q wr HJq.out ⟨rfl,hq⟩ (by intro k hk; simp at hk; subst hk; exact HBq.out.lt)
  have hmc:n-8000*q≤cap-8000*q:=by omega
  have hm1:=HQ2.out.2.2.1
  have hc1:cap-8000*q≤9223372036854775807:=by omega
  have HQN:Hid (q+1≠R→8000*(q+1)≤n):=Lib.hid (fun h=>by have:=HQ2.out; omega)
  clear HQ2 HQ
  rw [HRV.out] at hy
  generalize n-8000*q=m at *
  generalize cap-8000*q=C at *
  generalize o+24000*q=D at *
  by_cases hl:q+1=R
  · have hm8:=hm1.1 hl
    have hmn:min (m:Int) 8000=(m:Int):=by omega
    rw [decide_eq_true hl,Nat.min_eq_left hm8] at hy
    have hmC:(m:Int)≤(C:Int):=by omega
    have hm0:(0:Int)≤(m:Int):=by omega
    have HL:=Lib.hid hl
    clear hm1 hl
    gi_wp2
    refine hRd.mono ?_
    rintro e W3 (⟨rfl,hJ3,hk3⟩ | ⟨rfl,hJx3⟩)
    · have HJ3:=Lib.hid hJ3
      clear hk3 hJ3 hRd
      gi_wp2
      refine bodyPost_ret (results_none rfl _ _ _) rfl ?_
      exact ⟨⟨_,rfl⟩,.inl ⟨_,by rw [← HL.out,jF],HJ3.out⟩⟩
    · have HJx3:=Lib.hid hJx3
      clear hJx3 hRd
      gi_wp2
      refine bodyPost_ret (results_none rfl _ _ _) rfl ?_
      exact ⟨⟨_,rfl⟩,.inr ⟨_,by rw [← HL.out,jF]; exact List.prefix_refl _,HJx3.out⟩⟩
  · have hm8 : ¬ m≤8000:=fun h=>hl (hm1.2 h)
    have hmn:min (m:Int) 8000=8000:=by omega
    have hne : ¬ (8000:Int)=(m:Int):=by omega
    rw [decide_eq_false hl,Nat.min_eq_right (by omega)] at hy
    have hmC:(8000:Int)≤(C:Int):=by omega
    have hbe:((8000:Int)==(m:Int))=false:=by simp; omega
    have HL:=Lib.hid hl
    have HQL:Hid (q+1<R):=Lib.hid (by omega)
    clear hm1 hl
    gi_wp2
    refine hRd.mono ?_
    rintro e W3 (⟨rfl,hJ3,hk3⟩ | ⟨rfl,hJx3⟩)
    · have HJ3:=Lib.hid hJ3
      have HB5:Hid (Blk W3 Bs [.slice (some ⟨g,D,none⟩) m C] 70):=Lib.hid ((hk3.2 Bs (by simp)).trans HBq.out)
      have c5:=HB5.out.cell 0 rfl
      have f5:=HB5.out.frz 0
      clear hk3 hJ3 hRd c1
      gi_wp2
      have hB6:=HB5.out.set 0 (.slice (some ⟨g,D+24000,none⟩) (m-8000) (C-8000))
      simp only [List.set_cons_zero] at hB6
      have hO6:Own2 [Bs] W3 (W3.setCell ⟨Bs,0,none⟩ (.slice (some ⟨g,D+24000,none⟩) (m-8000) (C-8000))) :=
       zcU (fq:=[Bs]) ((Upd.refl [Bs] W3).setCell (p:=⟨Bs,0,none⟩) (.inl (by simp)) _) (fun k hk=>hk) (fun k hk=>by simp at hk; subst hk; exact HB5.out.cellsOnly)
      have hJ6:=HJ.out (List.range (q+1)) W3 _ (by rw [jF]; exact HJ3.out) hO6
      rw [HN1.out.1,HN1.out.2.1,HN1.out.2.2] at hB6 hJ6 ⊢
      have HB6:=Lib.hid hB6
      have HJ6:=Lib.hid hJ6
      clear hB6 hJ6 hO6
      gi_roundg (R-(q+1))
      all_goals first
       | (have:=HQL.out; omega)
       | exact ⟨q+1,HQL.out,rfl,Lib.hid (HQN.out HL.out),HJ6,HB6⟩
    · have HJx3:=Lib.hid hJx3
      clear hJx3 hRd
      gi_wp2
      refine bodyPost_ret (results_none rfl _ _ _) rfl ?_
      exact ⟨⟨_,rfl⟩,.inr ⟨_,by rw [← jF]; exact zdX (Nat.le_of_lt HQL.out),HJx3.out⟩⟩
def zck (a:Option Addr) (n cap q:Nat):Array Value := #[.slice (a.map fun p=>p.add (24000*q)) (min (n-8000*q) 8000) (cap-8000*q),.bool (decide (q+1=xD n))]
theorem zex:zck none 0 0 0 = #[.slice none 0 0,.bool true]:=by unfold zck xD; simp
theorem zeE (g o n cap q:Nat):zck (some ⟨g,o,none⟩) n cap q=zf8 g o n cap q:=by unfold zck zf8; simp only [Option.map_some]; first | rfl | rw [kz]
set_option maxRecDepth 100000 in
set_option maxHeartbeats 2000000 in
theorem zcj (Bs:Nat) (w:World) (hB:Blk w Bs [.slice none 0 0] 70) :
 SeqN Tryz.prog 118 #[.pointer (some ⟨Bs,0,none⟩)] (fun q:Nat=>zck none 0 0 q) [Bs] [Bs] (fun xs=>xs=List.range (1)) (fun pre=>pre <+: List.range (1)) (fun pre q=>pre=List.range q∧q<1) w:=by
 intro l J Jx W hU hz hJ hJx hY h0
 have b1:Blk W Bs [.slice none 0 0] 70:=hB.upd hU (by simp)
 have HJ:=Lib.hid hJ
 have HY:=Lib.hid hY
 have HJ0:=Lib.hid h0
 clear hJ hY h0 hJx hU hz hB
 have HB:=Lib.hid b1
 clear b1
 refine callsIn_of_wp Tryz.func118 rfl trivial ?_ rfl
 simp only [Tryz.ntmps118,List.size_toArray,List.length_cons,List.length_nil,Nat.reduceAdd,Nat.reduceSub,Array.replicate_succ,Array.replicate_zero,List.push_toArray,List.append_toArray,List.nil_append,List.cons_append]
 gi_wp2
 gi_loopg [] 1 (fun gg wr=>gg=1∧Hid (J [] wr)∧Hid (Blk wr Bs [.slice none 0 0] 70))
 case atStart=>exact ⟨rfl,HJ0,HB⟩
 case round =>
  obtain ⟨rfl,HJq,HBq⟩:=hrel
  clear HB HJ0
  have c1:=HBq.out.cell 0 rfl
  obtain ⟨fn,tmps,assign,body,hy,hRd⟩:=HY.out [] 0 wr HJq.out ⟨rfl,by omega⟩ (by intro k hk; simp at hk; subst hk; exact HBq.out.lt)
  rw [zex] at hy
  have hm0:min (0:Int) 8000=0:=by decide
  gi_wp2
  refine hRd.mono ?_
  rintro e W3 (⟨rfl,hJ3,hk3⟩ | ⟨rfl,hJx3⟩)
  · have HJ3:=Lib.hid hJ3
    clear hk3 hJ3 hRd
    gi_wp2
    refine bodyPost_ret (results_none rfl _ _ _) rfl ?_
    exact ⟨⟨_,rfl⟩,.inl ⟨_,rfl,HJ3.out⟩⟩
  · have HJx3:=Lib.hid hJx3
    clear hJx3 hRd
    gi_wp2
    refine bodyPost_ret (results_none rfl _ _ _) rfl ?_
    exact ⟨⟨_,rfl⟩,.inr ⟨_,List.prefix_refl _,HJx3.out⟩⟩
theorem zcz (Bs:Nat) (a:Option Addr) (n cap:Nat) (w:World) (ha:(a=none∧n=0∧cap=0) ∨ ∃ g o,a=some ⟨g,o,none⟩) (hB:Blk w Bs [.slice a n cap] 70) (hn:n≤1000000) (hc:n≤cap) (hcm:cap≤9223372036854775807) :
 SeqN Tryz.prog 118 #[.pointer (some ⟨Bs,0,none⟩)] (fun q:Nat=>zck a n cap q) [Bs] [Bs] (fun xs=>xs=List.range (xD n)) (fun pre=>pre <+: List.range (xD n)) (fun pre q=>pre=List.range q∧q<xD n) w:=by
 rcases ha with ⟨rfl,rfl,rfl⟩ | ⟨g,o,rfl⟩
 · exact zcj Bs w hB
 · have h:=zb3 Bs g o n cap w hB hn hc hcm
   simp only [← zeE] at h
   exact h
end Go.Proofs.YtfkcdnaghndgfaaGreatDoor
namespace Go.Proofs.YtfkcdnaghndgfaaGreatDoor
open Go.RowKit
def vM (ops:Array Oper):Bool:=ops.all fun o=>match o.op with | .defer _=>false | _=>true
theorem YB {ops:Array Oper} (h:vM ops=true) {i:Nat} {o:Oper} (hi:ops[i]? =some o) : ∀ c,o.op ≠ .defer c:=by
 intro c e
 unfold vM at h
 rw [Array.all_eq_true] at h
 obtain ⟨hl,hg⟩:=Array.getElem?_eq_some_iff.1 hi
 have:=h i hl
 rw [hg,e] at this
 cases this
theorem zes {n l:Nat} {P:Program} {row:String} {args:Array Value} {w:World} {R:Value→World→Prop} (h:Rows P row args w R):RowsIn (Fence.wide.inRound l) n P row args w R:=by
 intro c cs _
 obtain ⟨v,w',hr,hs⟩:=h c cs
 refine ⟨v,w',hr,?_⟩
 rw [fenced_inRound]
 exact stepsIn_wide.2 hs
theorem zh3 {n l:Nat} {P:Program} {o:Oper} {a:Act} {w:World} {K:Act→World→Prop} {Q:Exit→Act→World→Prop} (hd : ∀ c,o.op ≠ .defer c) (h:o.wp P a w K Q):o.wpIn (Fence.wide.inRound l) n P a w K Q:=by
 refine ⟨fun _ _=>trivial,?_⟩
 rw [Oper.semAt_eq _ _ _ hd]
 unfold Oper.wp at h
 generalize (execOp a.eval o).run P w=r at h ⊢
 cases r with
 | ok x w' =>
   cases x with
   | value v=>exact h
   | skip=>exact h
   | defer d=>exact h
   | enter f args=>exact ⟨fun e=>by simp [Fence.inRound,Fence.wide] at e,CallsIn.inRound l ((callsIn_wide.2 h).mono fun e w'' he=>by cases e<;>exact he)⟩
   | row r args=>exact ⟨fun e=>by simp [Fence.inRound,Fence.wide] at e,zes h⟩
   | _=>exact h.elim
 | halt x w'=>cases x<;>exact h
theorem zeP {n l:Nat} {P:Program} {ops:Array Oper} {Q:Exit→Act→World→Prop} (hno : ¬ LetsOut Q) (hd:vM ops=true) {i:Nat} {K:Act→World→Prop} {a:Act} {w:World} (h:wpOp P ops Q i K a w):wpOpIn (Fence.wide.inRound l) n P ops Q i K a w:=by
 unfold wpOp at h
 unfold wpOpIn
 cases hi:ops[i]? with
 | none=>rw [hi] at h; exact h
 | some o =>
   rw [hi] at h
   simp only at h ⊢
   by_cases hw:Region.wanted o (yielded ops a.tmps)=true
   · rw [if_pos hw] at h ⊢
     rcases h with h | h
     · exact zh3 (YB hd hi) h
     · exact absurd h.2 hno
   · rw [if_neg hw] at h ⊢
     exact ⟨fun _ _=>trivial,h⟩
theorem XB {n l:Nat} {P:Program} {md:Region.Mode} {ops:Array Oper} {Q:Exit→Act→World→Prop} (hno : ¬ LetsOut Q) (hd:vM ops=true) : ∀ (fuel:Nat) (listed:Array Bool) (a:Act) (w:World),wpAny P md ops Q fuel listed a w→wpAnyIn (Fence.wide.inRound l) n P md ops Q fuel listed a w
 | 0,_,_,_,h=>h
 | fuel+1,listed,a,w,h=>⟨h.1,fun i hi=>wpOpIn_mono (fun a' w' h'=>XB hno hd fuel _ a' w' h') (zeP hno hd (h.2 i hi))⟩
theorem YG {n l id:Nat} {P:Program} {ops:Array Oper} {Q:Exit→Act→World→Prop} {S:World→Prop} {a:Act} {w:World} (hm:P.follows .mixedOrders=true) (hd:vM ops=true) (hS:S w.drew)
 (h:S w.drew → ∀ K:Act→World→Prop,(∀ a w,Q .normal a w→K a w)→wpAnyH P .any ops (Exit.then K fun _ _ _=>False) S ops.size (Array.replicate ops.size false) a w.drew):(Code.region id ops true).wpIn (Fence.wide.inRound l) n P Q a w:=by
 refine wpIn_mono (wpIn_region_any hm (XB ?_ hd _ _ _ _ (wpAny_of_held _ _ _ _ (h hS (fun a w=>Q .normal a w) fun _ _ h=>h)))) ?_
 · rintro ⟨a,w,h⟩
   exact h
 · intro e a w h
   cases e<;>first | exact h | exact h.elim
end Go.Proofs.YtfkcdnaghndgfaaGreatDoor
namespace Go.Proofs.YtfkcdnaghndgfaaGreatDoor
open Go.RowKit Go.Shelf
attribute [local go_sem] Oper.semAt_some
def rowL (l:List Tok) (q:Nat):List Tok:=(l.drop (8000*q)).take 8000
theorem XR (l:List Tok) (q:Nat):(rowL l q).length=min (l.length-8000*q) 8000:=by unfold rowL; rw [List.length_take,List.length_drop]; omega
theorem zhk (l:List Tok) (q i:Nat) (h:i<(rowL l q).length) : ∃ h2:8000*q+i<l.length,(rowL l q)[i]=l[8000*q+i]:=by
 have h1:=h
 rw [XR] at h1
 refine ⟨by omega,?_⟩
 simp only [rowL,List.getElem_take,List.getElem_drop]
theorem TokIn.rowL {w:World} {a:Option Addr} {n:Nat} {l:List Tok} (h:TokIn w a n l) (q:Nat):TokIn w (a.map fun p=>p.add (24000*q)) (min (n-8000*q) 8000) (rowL l q) :=
 ⟨by rw [XR,h.len],fun i hi=>by
  obtain ⟨h2,e⟩:=zhk l q i hi
  obtain ⟨b,off,rfl,⟨c1,c2,c3⟩,r⟩:=h.cell (8000*q+i) h2
  rw [e]
  refine ⟨b,off+24000*q,by simp only [Option.map_some]; rw [kz],⟨?_,?_,?_⟩,r⟩
  · rw [show off+24000*q+i*3=off+(8000*q+i)*3 by omega]; exact c1
  · rw [show off+24000*q+i*3+1=off+(8000*q+i)*3+1 by omega]; exact c2
  · rw [show off+24000*q+i*3+2=off+(8000*q+i)*3+2 by omega]; exact c3⟩
end Go.Proofs.YtfkcdnaghndgfaaGreatDoor
namespace Go.Proofs.YtfkcdnaghndgfaaGreatDoor
open Go.RowKit
attribute [local go_sem] Oper.semAt_some
def bst (A B C:Int) (i:Nat):Nat :=
 if i≤1 then 0 else if i=2 then (if B<A then 1 else 0) else if C<(if B<A then B else A) then 2 else if B<A then 1 else 0
def at3 (A B C:Int) (i:Nat):Int:=if i=0 then A else if i=1 then B else C
theorem zfL (A B C:Int) (i:Nat):bst A B C i<3:=by
 unfold bst
 (repeat' split)<;>omega
def ziS (l:List Tok) (w:World) (e:Ending) (w':World):Prop := ∃ (lits backs lens:List Nat) (steps:List StpD) (t:Nat),MadeO l lits backs steps lens∧ToldO lens t ∧
 e = .returned (.int .i64 (bst ((35+8*zx l:Nat):Int) (3+ql (ints (xG 4)) (ints (List.replicate 32 5)) (zo l)) (((3+(14+3*t+szT lens steps):Nat):Int)+ql (ints lits) (ints backs) (zo l)) 3:Nat))∧Upd [] w w'
set_option maxRecDepth 100000 in
set_option maxHeartbeats 3200000 in
theorem zef (l:List Tok) (a:Option Addr) (n cap:Nat) (w:World) (hI:TokIn w a n l) (hn:n≤100000) (hok : ∀ t∈l,zH t) :
 Calls Tryz.prog 43 #[.slice a n cap] w fun e w'=>ziS l w e w':=by
 have HS:=Lib.hid (zeM l a n cap w hI hn hok)
 clear hI hok
 go_enter Tryz.func43,Tryz.ntmps43
 go_wp2_with fail
 refine HS.out.mono ?_
 rintro e w1 ⟨lits,backs,lens,steps,t,hM,hT,rfl,hU⟩
 have HM:=Lib.hid hM
 have HT:=Lib.hid hT
 have HU1:=Lib.hid hU
 obtain ⟨X,hX⟩ : ∃ X,X=((35+8*zx l:Nat):Int):=⟨_,rfl⟩
 obtain ⟨Y,hY⟩ : ∃ X,X=(3+ql (ints (xG 4)) (ints (List.replicate 32 5)) (zo l)):=⟨_,rfl⟩
 obtain ⟨Z,hZ⟩ : ∃ X,X=(((3+(14+3*t+szT lens steps):Nat):Int)+ql (ints lits) (ints backs) (zo l)):=⟨_,rfl⟩
 rw [← hX,← hY,← hZ]
 have HX:=Lib.hid hX
 have HY:=Lib.hid hY
 have HZ:=Lib.hid hZ
 clear hM hT hU hX hY hZ HS
 have HIX:Hid (∀ w (i:Nat),i<3→(Instr.index 132 (.agg #[.int .i64 X,.int .i64 Y,.int .i64 Z]) (.int .i64 (i:Nat))).run Tryz.prog w = .ok (.int .i64 (at3 X Y Z i)) w):=Lib.hid (fun w i hi=>by
  obtain rfl | rfl | rfl:i=0∨i=1∨i=2:=by omega
  all_goals exact JL (P:=Tryz.prog) 132 3 3 Tryz.underlying132 .i64 Tryz.underlying3 (by kernel_rfl) [.int .i64 X,.int .i64 Y,.int .i64 Z] rfl .i64 _ (by omega) w)
 go_simp
 go_wp2
 have HB:=Lib.hid (Blk.new w1 [.int .i64 X,.int .i64 Y,.int .i64 Z] 132)
 have HU2:=Lib.hid (HU1.out.alloc (.cells #[.int .i64 X,.int .i64 Y,.int .i64 Z] 132))
 change Code.wp _ _ _ _ (w1.alloc (.cells #[.int .i64 X,.int .i64 Y,.int .i64 Z] 132))
 generalize w1.alloc (.cells #[.int .i64 X,.int .i64 Y,.int .i64 Z] 132)=w2 at *
 generalize w1.heap.size=b at *
 go_loopg [2,9] 3 (fun gg s2 s9 wr => ∃ i:Nat,i≤3∧gg=3-i∧s9 = .int .i64 (i:Nat)∧s2 = .int .i64 (bst X Y Z i:Nat)∧wr=w2)
 case atStart=>exact ⟨0,by omega,by omega,rfl,rfl,rfl⟩
 case round =>
  obtain ⟨i,hi3,rfl,rfl,rfl,hwr⟩:=hrel
  subst hwr
  have hbl:=zfL X Y Z i
  by_cases hc:i<3
  · have hix:=HIX.out wr i hc
    have hw1:IntKind.i64.wrap ((i:Int)+1)=((i+1:Nat):Int):=by rw [IntWalk.i64_in _ (by omega)]; rfl
    have HN:Hid (bst X Y Z (i+1)=if at3 X Y Z i<at3 X Y Z (bst X Y Z i) then i else bst X Y Z i):=Lib.hid (by
     obtain rfl | rfl | rfl:i=0∨i=1∨i=2:=by omega
     · simp [bst,at3]
     · by_cases h1:Y<X<;>simp [bst,at3,h1]
     · by_cases h1:Y<X<;>by_cases h2:Z<Y<;>by_cases h3:Z<X<;>simp [bst,at3,h1,h2,h3])
    have hcz:(i:Int)<3:=by omega
    generalize bst X Y Z i=K at *
    have hKc:wr.cell? ⟨b,K,none⟩=some (.int .i64 (at3 X Y Z K)):=by
     obtain rfl | rfl | rfl:K=0∨K=1∨K=2:=by omega
     all_goals exact HB.out.cell _ rfl
    generalize at3 X Y Z i=V at *
    generalize at3 X Y Z K=U at *
    go_wp2
    all_goals go_roundg (3-(i+1))
    · exact ⟨i+1,by omega,by first | rfl | omega,by first | rfl | go_num,by rw [HN.out,if_pos (by omega)],rfl⟩
    · omega
    · exact ⟨i+1,by omega,by first | rfl | omega,by first | rfl | go_num,by rw [HN.out,if_neg (by omega)],rfl⟩
    · omega
  · obtain rfl:i=3:=by omega
    go_wp2
    go_ret
    exact ⟨lits,backs,lens,steps,t,HM.out,HT.out,by rw [HX.out,HY.out,HZ.out]; rfl,HU2.out⟩
set_option maxRecDepth 100000 in
set_option maxHeartbeats 3200000 in
theorem zdK (l:List Tok) (a:Option Addr) (n cap:Nat) (w:World) (hI:TokIn w a n l) (hn:n≤100000) (hok : ∀ t∈l,zH t) :
 Calls Tryz.prog 76 #[.slice a n cap] w fun e w'=>e = .returned (.int .i64 (zx l:Nat))∧Upd [] w w':=by
 have hln:=hI.len
 have HEL:=Lib.hid (fun i=>QW (l.take i) (fun t h=>hok t (List.mem_of_mem_take h)))
 have HOK:=Lib.hid hok
 have HI:=Lib.hid hI
 have HLN:=Lib.hid hln
 clear hI hok hln
 go_enter Tryz.func76,Tryz.ntmps76
 go_wp2
 go_loopg [2,7] 200000 (fun gg s2 s7 wr => ∃ i:Nat,i≤n∧gg=200000-i∧s7 = .int .i64 (i:Nat)∧s2 = .int .i64 (zx (l.take i):Nat)∧Hid (Upd [] w wr))
 case atStart=>exact ⟨0,by omega,by omega,rfl,rfl,Lib.hid (Upd.refl _ _)⟩
 case round =>
  obtain ⟨i,hin,rfl,rfl,rfl,HU⟩:=hrel
  have hms:zx (l.take i)≤258*i:=Nat.le_trans (HEL.out i) (Nat.mul_le_mul_left _ (List.length_take_le _ _))
  by_cases hc:i<n
  · have hcz:(i:Int)<(n:Int):=by omega
    have hil:i<l.length:=by rw [HLN.out]; exact hc
    have hw1:IntKind.i64.wrap ((i:Int)+1)=((i+1:Nat):Int):=by rw [IntWalk.i64_in _ (by omega)]; rfl
    obtain ⟨b,off,rfl,⟨hc1,hc2,hc3⟩,r1,r2,r3⟩:=(HI.out.pure HU.out).cell i hil
    have HSM:Hid (zx (l.take (i+1))=zx (l.take i)+xJ l[i]):=Lib.hid (by rw [List.take_succ_eq_append_getElem hil,Zb])
    have htl:=QI (HOK.out _ (List.getElem_mem hil))
    have hmx:max 1 l[i].long=(xJ l[i]:Int):=by unfold xJ; split<;>omega
    generalize l[i]=t at *
    generalize xJ t=mt at *
    obtain ⟨tb,tl,tk⟩:=t
    dsimp only at hc1 hc2 hc3 r1 r2 r3 hmx
    have HU4:=Lib.hid (HU.out.alloc (.cells #[.int .u8 (tb:Nat),.int .i64 tl,.int .i64 tk] 130))
    generalize zx (l.take i)=ms at *
    have hws:IntKind.i64.wrap ((ms:Int)+(mt:Int))=((ms+mt:Nat):Int):=by rw [IntWalk.i64_in _ (by omega)]; rfl
    clear hil
    go_wp2
    go_roundg (200000-(i+1))
    · exact ⟨i+1,by omega,by first | rfl | omega,by first | rfl | go_num,by rw [HSM.out]; first | rfl | go_num,HU4⟩
    · omega
  · have hcz : ¬ (i:Int)<(n:Int):=by omega
    obtain rfl:i=n:=by omega
    have htk:l.take i=l:=List.take_of_length_le (by rw [HLN.out]; exact Nat.le_refl _)
    rw [htk] at hms ⊢
    clear htk
    go_wp2
    go_ret
    exact ⟨rfl,HU.out⟩
end Go.Proofs.YtfkcdnaghndgfaaGreatDoor
namespace Go.Proofs.YtfkcdnaghndgfaaGreatDoor
open Go.RowKit
theorem zgm {L M:List Bool} {l:List Tok} {k:Nat} {last:Bool} (hB:Ko L l k last M) (hok : ∀ t∈l,zH t) (hn:l.length≤100000):M.length≤L.length+10000000:=by
 have hml:(zo l).1.length=286∧(zo l).2.length=30:=by have:=qt l l.length (Nat.le_refl _); rw [List.take_length] at this; exact ⟨this.la,this.lb⟩
 rcases hB with ⟨h,e⟩ | ⟨h,e⟩ | ⟨h,lits',backs',steps',lens',t',hM',hT',e⟩
 · have hbl:(xt l).length=l.length:=List.length_map _
   rw [e]
   unfold XK
   rw [List.length_append,List.length_append,List.length_append,xX,Xu,zk,zk,yN,hbl]
   omega
 · rw [e,List.length_append,Xu]
   have:=Yq (xG 4) (List.replicate 32 5) l
   have h2:=JG _ _ (qj Jk.1) (qj Jk.2.1) l hn hok
   have h3:=Xt _ _ Jk.1 Jk.2.1 l hn hok
   omega
 · obtain ⟨_,_,_,_,x15,y15,hsy,hl7,_,hsl⟩:=hM'.bd hml
   rw [e,List.length_append,List.length_append,Xu]
   have h1:=zcQ lits'.length backs'.length t' lens' steps' hT'.hi (fun x hx=>by have:=hl7 x hx; omega) (fun s hs=>(hsy s hs).2)
   have:=Yq lits' backs' l
   have h2:=JG _ _ (qj x15) (qj y15) l hn hok
   have h3:=Xt _ _ x15 y15 l hn hok
   omega
def xf (l:List Tok) (q:Nat):Nat:=zx (l.take (8000*q))
theorem Jn (l r:List Tok):zx (l++r)=zx l+zx r:=by unfold zx; rw [List.map_append,List.sum_append]
theorem Jw (l:List Tok) (q:Nat):xf l (q+1)=xf l q+zx (rowL l q):=by
 unfold xf rowL
 rw [← Jn,show 8000*(q+1)=8000*q+8000 by omega,List.take_add]
theorem zg3 (l:List Tok) (q:Nat):xf l q≤zx l:=by
 unfold xf
 have h:zx l=zx (l.take (8000*q))+zx (l.drop (8000*q)):=by rw [← Jn,List.take_append_drop]
 omega
def zab (bs:List Nat) (l:List Tok) (q k:Nat):List Tok:=if k=0 then qe ((bs.drop (xf l q)).take (zx (rowL l q))) else rowL l q
inductive RT (bs:List Nat) (l:List Tok) (KK:List Tok→Nat→Prop):Nat→List Bool→Prop
 | zero:RT bs l KK 0 []
 | succ {q k:Nat} {L M:List Bool}:RT bs l KK q L→KK (rowL l q) k→k≤2→Ko L (zab bs l q k) k (decide (q+1=xD l.length)) M→RT bs l KK (q+1) M
theorem ZO {l:List Tok} (hok : ∀ t∈l,zH t) (q:Nat) : ∀ t∈rowL l q,zH t:=fun t ht=>hok t (List.mem_of_mem_drop (List.mem_of_mem_take ht))
theorem YW {bs:List Nat} (h : ∀ b∈bs,b<256) : ∀ t∈qe bs,zH t:=fun t ht=>by
 obtain ⟨b,hb,rfl⟩:=List.mem_map.1 ht
 exact .inl ⟨rfl,rfl,h b hb⟩
theorem Zy : ∀ b:List Nat,jt (qe b)=0
 | []=>rfl
 | x::b=>by
   have:=Zy b
   show jt (⟨x,0,0⟩::qe b)=0
   simp [jt] at this ⊢
   exact this
theorem zhF {bs:List Nat} {l:List Tok} (hok : ∀ t∈l,zH t) (hb : ∀ b∈bs,b<256) (q k:Nat) : ∀ t∈zab bs l q k,zH t:=by
 unfold zab
 split
 · exact YW (fun b h=>hb b (List.mem_of_mem_drop (List.mem_of_mem_take h)))
 · exact ZO hok q
theorem zgJ {bs:List Nat} {l:List Tok} (hbs:bs.length≤65000) (q k:Nat):(zab bs l q k).length≤65000:=by
 unfold zab qe
 split
 · rw [List.length_map,List.length_take,List.length_drop]; omega
 · rw [XR]; omega
theorem RT.up {bs:List Nat} {l:List Tok} {KK:List Tok→Nat→Prop} (hok : ∀ t∈l,zH t) (hb : ∀ b∈bs,b<256) (hbs:bs.length≤65000) : ∀ {q:Nat} {L:List Bool},RT bs l KK q L→L.length≤10000000*q
 | _,_,.zero=>by simp
 | _,_,.succ h _ _ hB=>by
   have h1:=h.up hok hb hbs
   have h2:=zgm hB (zhF hok hb _ _) (Nat.le_trans (zgJ hbs _ _) (by omega))
   omega
end Go.Proofs.YtfkcdnaghndgfaaGreatDoor
