/- A loop over an iterator that writes cells of its own between two rounds: the contract, and the law of the loop. -/
import Derived.RangeFuncNested
import Derived.RangeFuncBound
import Derived.RangeFuncCalls
import Derived.RangeFuncLeaves
import Derived.Test.YtigjingielnaoaaGreatDoorQAA
import Derived.Shelf.Abstract
import Derived.Shelf.RegionOpen
import Derived.WalkKit
import Derived.OwnWalkIn
import Derived.TacticsInMore
import Derived.LoopNIn
import Derived.LoopIn
import Derived.Sort.LoopGhostIn
import Derived.Lib.Bytealg
import Derived.Handy
import Derived.Outline
import Derived.Deep.QuietTactic
import Derived.BigQuiet
import Derived.Test.YtigjingielnaoaaGreatDoorProg
import Derived.LoopTactic
set_option linter.unusedVariables false
set_option linter.unusedSimpArgs false
set_option linter.unusedSectionVars false
namespace Go.Proofs.YtigjingielnaoaaGreatDoor
open Go.RowKit
def Keep (ks:List Nat) (W W':World):Prop:=W.heap.size≤W'.heap.size ∧ ∀ k∈ks,W'.heap[k]? =W.heap[k]?
theorem Keep.refl (ks:List Nat) (W:World):Keep ks W W:=⟨Nat.le_refl _,fun _ _=>rfl⟩
theorem Keep.trans {ks:List Nat} {A B C:World} (h:Keep ks A B) (k:Keep ks B C):Keep ks A C:=⟨Nat.le_trans h.1 k.1,fun i hi=>(k.2 i hi).trans (h.2 i hi)⟩
theorem Keep.putObj {ks:List Nat} {W:World} {l:Nat} (o:Obj) (hl : ∀ k∈ks,k≠l):Keep ks W (W.putObj l o):=⟨by simp,fun k hk=>World.putObj_heap_other (hl k hk)⟩
theorem Keep.of_upd {ks fp:List Nat} {W W':World} (h:Upd fp W W') (hk : ∀ k∈ks,k<W.heap.size∧k∉fp):Keep ks W W':=⟨h.size,fun k hm=>h.block k (hk k hm).1 (hk k hm).2⟩
def Own2 (fp:List Nat) (A B:World):Prop:=Upd fp A B∧KeepsOthers A B
theorem Own2.refl (fp:List Nat) (A:World):Own2 fp A A:=⟨Upd.refl _ _,KeepsOthers.refl _⟩
theorem Own2.trans {fp:List Nat} {A B C:World} (h:Own2 fp A B) (k:Own2 fp B C):Own2 fp A C:=⟨h.1.then k.1,h.2.trans k.2⟩
theorem Blk.cellsOnly {w:World} {b:Nat} {cs:List Value} {t:TypeId} (h:Blk w b cs t) : ∀ o,w.heap[b]? =some o→o.isCells=true:=fun o ho=>by
 unfold Blk at h; rw [h] at ho; cases ho; rfl
theorem Row.cellsOnly {w:World} {e:TypeId} {size:Nat} {v:Value} {n:Nat} {xs:List Value} (h:Row w e size v n xs) : ∀ g,v.ownBlock=some g → ∀ o,w.heap[g]? =some o→o.isCells=true:=fun g hg o ho=>by
 rcases h.2 with ⟨rfl,rfl⟩ | ⟨g',cap,cur,rfl,hb,hh,_⟩
 · simp [Value.ownBlock] at hg
 · simp [Value.ownBlock] at hg; subst hg; rw [hh] at ho; cases ho; rfl
theorem Upd.others {fp:List Nat} {w w':World} (h:Upd fp w w') (hc : ∀ k,k∈fp → ∀ o,w.heap[k]? =some o→o.isCells=true):KeepsOthers w w' :=
 ⟨h.size,fun k o ho hn=>by
  by_cases hm:k∈fp
  · have:=hc k hm o ho; rw [this] at hn; cases hn
  · exact (h.block k (Array.getElem?_eq_some_iff.1 ho).1 hm).trans ho⟩
theorem zan {fp fq:List Nat} {w w':World} (h:Upd fq w w') (hs : ∀ k∈fq,k∈fp) (hc : ∀ k,k∈fq → ∀ o,w.heap[k]? =some o→o.isCells=true):Own2 fp w w':=⟨h.mono fun k hk => .inl (hs k hk),h.others hc⟩
theorem vH {β:Type} (B:Nat) (fp:List Nat) (w0:World) (hB:w0.heap.size≤B):OwnFrom B (fun (_:β) W=>Upd fp w0 W):=fun _ W W' row hs hg hr =>
 hs.grown hg (fun k hk => .inr (by have:=(hr k hk).1; omega))
theorem xD {β:Type} (B b:Nat) (f:β→List Value) (t:TypeId):OwnFrom B (fun s W=>Blk W b (f s) t):=fun s W W' row hs hg hr =>
 Blk.grown hs hg (fun e=>by obtain ⟨_,o,ho,hc⟩:=hr b e; rw [Blk.cellsOnly hs o ho] at hc; cases hc)
theorem Row.ownF {w w':World} {e:TypeId} {size:Nat} {v:Value} {n:Nat} {xs:List Value} {row:Option Nat} {B:Nat} (h:Row w e size v n xs) (hg:w.grownBy w' row) (hr : ∀ r,row=some r→B≤r ∧ ∃ o:Obj,w.heap[r]? =some o∧o.isCells=false):Row w' e size v n xs :=
 h.upd ((Upd.refl row.toList w).grown hg (fun k hk => .inl (by simp [hk]))) (fun k hk hm=>by
  simp at hm; obtain ⟨_,o,ho,hc⟩:=hr k hm; rw [h.cellsOnly k hk o ho] at hc; cases hc)
def zcw {α:Type} (P:Program) (g:Nat) (lb:Array Value) (encs:α→Array Value) (fp ks:List Nat) (S Sp:List α→Prop) (N:Nat) (w:World):Prop :=
 ∀ (l:Nat) (J Jx:List α→World→Prop) (W:World),Upd [] w W→W.heap.size=w.heap.size+2→(∀ s A B,J s A→Own2 fp A B→J s B)→(∀ s A B,Jx s A→Own2 fp A B→Jx s B) →
  (∀ pre x W1,J pre W1→pre.length<N→(∀ k∈fp,k<W1.heap.size)→YieldAt Fence.wide 7 P l (encs x) W1 fun e W'=>(e = .returned (.bool true)∧J (pre++[x]) W'∧Keep ks W1 W')∨(e = .returned (.bool false)∧Jx (pre++[x]) W'))→J [] W →
  CallsIn Fence.wide 8 P g (#[.func (.yield l) #[] #[]]++lb) W fun e W'=>(∃ v,e = .returned v)∧((∃ xs,S xs∧J xs W')∨(∃ pre,Sp pre∧Jx pre W'))
section
variable {α:Type} {P:Program} {g:Operand} {ps:Array Tmp} {assign body:Code} {Q:Exit→Act→World→Prop} {a:Act} {w:World}
theorem zeR {gf:Nat} {lb:Array Value} (hg:a.eval g = .func (.func gf) #[] lb) (eg : ∀ args w,(callFunc gf args).run P w = .ok (.enter gf args) w)
 {encs:α→Array Value} {fp ks:List Nat} {S Sp:List α→Prop} {N:Nat} (hseq:zcw P gf lb encs fp ks S Sp N w) (hks : ∀ k∈ks,k≠w.heap.size+1) (hps : ∀ x,(encs x).size=ps.size)
 (I:List α→World→Prop) (Ix:Code→List α→World→Prop) (Mid:List α→α→Act→World→Prop)
 (hI:OwnFrom w.heap.size I) (hIx : ∀ c,OwnFrom w.heap.size (Ix c)) (hMid : ∀ pre x a',OwnFrom w.heap.size (fun (_:Unit) W=>Mid pre x a' W))
 (hIw : ∀ s A B,I s A→Own2 fp A B→I s B) (hIxw : ∀ c s A B,Ix c s A→Own2 fp A B→Ix c s B) (h0:I [] w)
 (hassign : ∀ (l:Nat) (pre:List α) (x:α) (W:World) (K:Act→World→Prop),I pre W→w.heap.size≤W.heap.size→(∀ k∈fp,k<W.heap.size)→(∀ a' W',KeepsFrom w.heap.size W W'→Keep ks W W'→Mid pre x a' W'→K a' W') →
  assign.wpIn (Fence.wide.inRound l) 7 P (Exit.then K (fun _ _ _=>False)) { tmps:=(ps.zip (encs x)).foldl (fun t (p,v)=>t.setIfInBounds p v) a.tmps,defers:=[] } W)
 (hbody : ∀ (l:Nat) (pre:List α) (x:α) (a':Act) (W:World),w.heap.size≤W.heap.size→Mid pre x a' W→pre.length<N →
  body.wpIn (Fence.wide.inRound l) 7 P (ownPostG w.heap.size (Keep ks) I Ix (pre++[x]) W) a' W)
 (hdone : ∀ (D:Nat) (xs:List α) (W:World),w.heap.size≤D→S xs→I xs W→W.heap[D]? =some (.deferred (some []))→Q .normal { a with defers := { target := .collected D,args := #[] }::a.defers } W)
 (hstop : ∀ (D:Nat) (c:Code) (pre:List α) (W:World),w.heap.size≤D→Sp pre→Ix c pre W→W.heap[D]? =some (.deferred (some []))→c.wpIn Fence.wide 9 P Q { a with defers := { target := .collected D,args := #[] }::a.defers } W) :
 (Code.rangeFunc g ps assign body).wpIn Fence.wide 9 P Q a w:=by
 refine wpIn_rangeFunc fun fn hfn=>?_
 let rc:LoopState→Option Code→Loop:=fun s p => { state:=s,pending:=p,fn,tmps:=a.tmps,params:=ps,assign,body,defers:=w.heap.size }
 let wD:=w.alloc (.deferred (some []))
 let wL:=wD.alloc (.loop (rc .ready none))
 have zD:wD.heap.size=w.heap.size+1:=by simp [wD]
 have recL:wL.heap[w.heap.size+1]? =some (.loop (rc .ready none)):=by
  have:=World.alloc_heap_new wD (.loop (rc .ready none)); rwa [zD] at this
 have defL:wL.heap[w.heap.size]? =some (.deferred (some [])):=(Below.heap_alloc wD _ _ (by omega)).trans (World.alloc_heap_new w _)
 have iL:I [] wL:=hI.alloc _ (hI.alloc _ h0)
 have uL:Upd [] w wL:=((Upd.refl [] w).alloc _).alloc _
 refine ⟨w.heap.size+1,[{ target := .collected w.heap.size,args := #[] }],wL,{ target := .fn (.func gf) lb,args := #[.func (.yield (w.heap.size+1)) #[] #[]] },wL,gf,#[.func (.yield (w.heap.size+1)) #[] #[]]++lb,wL,run_enterLoop_outer _ _ _ _ _,by simp only [resolve,hg]; simp [go_sem],fun _ _=>trivial,by simp [invoke,go_sem,eg],(fun _=>by omega),?_⟩
 have kept : ∀ {A B:World} {k:Nat} {o:Obj},Own2 fp A B→A.heap[k]? =some o→o.isCells=false→B.heap[k]? =some o:=fun hAB h hc=>hAB.2.same _ _ h hc
 refine (hseq (w.heap.size+1)
  (fun s W=>I s W∧W.heap[w.heap.size+1]? =some (.loop (rc .ready none))∧W.heap[w.heap.size]? =some (.deferred (some [])))
  (fun s W => ∃ c,Ix c s W∧W.heap[w.heap.size+1]? =some (.loop (rc .done (some c)))∧W.heap[w.heap.size]? =some (.deferred (some [])))
  wL uL (by simp [wL,zD]) (fun s A B h hAB=>⟨hIw s A B h.1 hAB,kept hAB h.2.1 rfl,kept hAB h.2.2 rfl⟩)
  (fun s A B h hAB=>by obtain ⟨c,h1,h2,h3⟩:=h; exact ⟨c,hIxw c s A B h1 hAB,kept hAB h2 rfl,kept hAB h3 rfl⟩) ?round ⟨iL,recL,defL⟩).mono ?behind
 case round =>
  rintro pre x W ⟨hi,hr,hd⟩ hlen hfp
  have hsz:w.heap.size≤W.heap.size:=by have:=(Array.getElem?_eq_some_iff.1 hr).1; omega
  refine ⟨fn,_,assign,body,run_yield (r:=rc .ready none) hr (hps x),roundIn_of_wpIn hfn (hassign _ pre x W _ hi hsz hfp fun a' Wa hkf hkp hmid=>?_)⟩
  have hr1:=hkf.same _ _ (by omega) hr rfl
  have hd1:=hkf.same _ _ (Nat.le_refl _) hd rfl
  have hl1:w.heap.size+1<Wa.heap.size:=(Array.getElem?_eq_some_iff.1 hr1).1
  refine ⟨_,run_beginRound hr1 rfl,?_⟩
  let Wb:=Wa.putObj (w.heap.size+1) (.loop (rc .busy none))
  have hr2:Wb.heap[w.heap.size+1]? =some (.loop (rc .busy none)):=World.putObj_heap_same hl1
  have hd2:Wb.heap[w.heap.size]? =some (.deferred (some [])):=(World.putObj_heap_other (by omega)).trans hd1
  have hkb:Keep ks W Wb:=hkp.trans (Keep.putObj _ fun k hk=>hks k hk)
  have hmb:Mid pre x a' Wb:=(hMid pre x a').putObj (s:=()) _ hmid (by omega) hr1 rfl
  refine wpIn_mono (hbody _ pre x a' Wb (by show w.heap.size≤(Wa.putObj _ _).heap.size; simp; omega) hmb hlen) fun e a3 W3 hp=>?_
  have fin : ∀ (j:Option Code),KeepsFrom w.heap.size Wb W3 →
   (Instr.endRound (w.heap.size+1) j).run P W3 = .ok (.bool j.isNone) (W3.putObj (w.heap.size+1) (.loop (rc (if j.isNone then .ready else .done) j)))∧W3.heap[w.heap.size+1]? =some (.loop (rc .busy none)) ∧
   (W3.putObj (w.heap.size+1) (.loop (rc (if j.isNone then .ready else .done) j))).heap[w.heap.size+1]? =some (.loop (rc (if j.isNone then .ready else .done) j)) ∧
   (W3.putObj (w.heap.size+1) (.loop (rc (if j.isNone then .ready else .done) j))).heap[w.heap.size]? =some (.deferred (some [])):=fun j hk=>by
   have hr3:=hk.same _ _ (by omega) hr2 rfl
   exact ⟨run_endRound j hr3,hr3,World.putObj_heap_same (Array.getElem?_eq_some_iff.1 hr3).1,(World.putObj_heap_other (by omega)).trans (hk.same _ _ (Nat.le_refl _) hd2 rfl)⟩
  have out : ∀ (c:Code),KeepsFrom w.heap.size Wb W3∧Ix c (pre++[x]) W3 → ∃ v W4,(Instr.endRound (w.heap.size+1) (some c)).run P W3 = .ok v W4 ∧
   ((Ending.returned v = .returned (.bool true)∧(I (pre++[x]) W4∧W4.heap[w.heap.size+1]? =some (.loop (rc .ready none))∧W4.heap[w.heap.size]? =some (.deferred (some [])))∧Keep ks W W4) ∨
    (Ending.returned v = .returned (.bool false) ∧ ∃ c,Ix c (pre++[x]) W4∧W4.heap[w.heap.size+1]? =some (.loop (rc .done (some c)))∧W4.heap[w.heap.size]? =some (.deferred (some [])))):=fun c h=>by
   obtain ⟨hrun,hr3,hr4,hd4⟩:=fin (some c) h.1
   exact ⟨_,_,hrun,.inr ⟨rfl,c,(hIx c).putObj _ h.2 (by omega) hr3 rfl,hr4,hd4⟩⟩
  cases e with
  | normal =>
    obtain ⟨hrun,hr3,hr4,hd4⟩:=fin none hp.1
    exact ⟨_,_,hrun,.inl ⟨rfl,⟨hI.putObj _ hp.2.2 (by omega) hr3 rfl,hr4,hd4⟩,(hkb.trans hp.2.1).trans (Keep.putObj _ fun k hk=>hks k hk)⟩⟩
  | ret=>exact out .ret hp
  | exit id=>exact out (.exit id) hp
  | goto t=>exact out (.goto t) hp
  | panic ch=>exact hp.elim
  | outgrown=>exact hp.elim
 case behind =>
  rintro e W2 ⟨⟨v,rfl⟩,(⟨xs,hS,hi,hr,hd⟩ | ⟨pre,hSp,c,hi,hr,hd⟩)⟩
  · exact ⟨none,_,run_endLoop (r:=rc .ready none) hr (by simp [rc]),hdone _ xs _ (Nat.le_refl _) hS (hI.putObj _ hi (by omega) hr rfl) ((World.putObj_heap_other (by omega)).trans hd)⟩
  · exact ⟨some c,_,run_endLoop (r:=rc .done (some c)) hr (by simp [rc]),hstop _ c pre _ (Nat.le_refl _) hSp ((hIx c).putObj _ hi (by omega) hr rfl) ((World.putObj_heap_other (by omega)).trans hd)⟩
theorem zcc {gf:Nat} {lb:Array Value} (hg:a.eval g = .func (.func gf) #[] lb) (eg : ∀ args w,(callFunc gf args).run P w = .ok (.enter gf args) w)
 {encs:α→Array Value} {fp ks:List Nat} {S Sp:List α→Prop} {N:Nat} (hseq:zcw P gf lb encs fp ks S Sp N w) (hks : ∀ k∈ks,k≠w.heap.size+1) (hps : ∀ x,(encs x).size=ps.size)
 (I:List α→World→Prop) (Ix:Code→List α→World→Prop) (act:α→Act)
 (hI:OwnFrom w.heap.size I) (hIx : ∀ c,OwnFrom w.heap.size (Ix c)) (hIw : ∀ s A B,I s A→Own2 fp A B→I s B) (hIxw : ∀ c s A B,Ix c s A→Own2 fp A B→Ix c s B) (h0:I [] w)
 (hassign : ∀ (l:Nat) (x:α) (W:World) (K:Act→World→Prop),K (act x) W →
  assign.wpIn (Fence.wide.inRound l) 7 P (Exit.then K (fun _ _ _=>False)) { tmps:=(ps.zip (encs x)).foldl (fun t (p,v)=>t.setIfInBounds p v) a.tmps,defers:=[] } W)
 (hbody : ∀ (l:Nat) (pre:List α) (x:α) (W:World),w.heap.size≤W.heap.size→(∀ k∈fp,k<W.heap.size)→I pre W→pre.length<N →
  body.wpIn (Fence.wide.inRound l) 7 P (ownPostG w.heap.size (Keep ks) I Ix (pre++[x]) W) (act x) W)
 (hdone : ∀ (D:Nat) (xs:List α) (W:World),w.heap.size≤D→S xs→I xs W→W.heap[D]? =some (.deferred (some []))→Q .normal { a with defers := { target := .collected D,args := #[] }::a.defers } W)
 (hstop : ∀ (D:Nat) (c:Code) (pre:List α) (W:World),w.heap.size≤D→Sp pre→Ix c pre W→W.heap[D]? =some (.deferred (some []))→c.wpIn Fence.wide 9 P Q { a with defers := { target := .collected D,args := #[] }::a.defers } W) :
 (Code.rangeFunc g ps assign body).wpIn Fence.wide 9 P Q a w :=
 zeR hg eg hseq hks hps I Ix (fun pre x a' W=>(I pre W ∧ ∀ k∈fp,k<W.heap.size)∧a'=act x) hI hIx
  (fun pre x a' _ A B row hs hg hr=>⟨⟨hI pre A B row hs.1.1 hg hr,fun k hk=>Nat.lt_of_lt_of_le (hs.1.2 k hk) hg.size⟩,hs.2⟩) hIw hIxw h0
  (fun l pre x W K hi hsz hfp hK=>hassign l x W K (hK _ _ (KeepsFrom.refl _ _) (Keep.refl _ _) ⟨⟨hi,hfp⟩,rfl⟩))
  (fun l pre x a' W hsz hm hlt=>by obtain ⟨⟨h1,h2⟩,rfl⟩:=hm; exact hbody l pre x W hsz h2 h1 hlt) hdone hstop
end
end Go.Proofs.YtigjingielnaoaaGreatDoor
namespace Go.Proofs.YtigjingielnaoaaGreatDoor
open Go.RowKit Go.Shelf
attribute [local go_sem] Oper.semAt_some
def zQ (l:List Nat):Nat:=(l.takeWhile (fun c=>decide (c≠47))).length
theorem zaW (l:List Nat):zQ l≤l.length:=(List.takeWhile_prefix _).length_le
theorem kx (c:Nat) (r:List Nat):zQ (c::r)=if c=47 then 0 else zQ r+1:=by
 unfold zQ
 rw [List.takeWhile_cons]
 by_cases h:c=47<;>simp [h]
theorem jY : ∀ (l:List Nat),zQ l<l.length→zl l=l.take (zQ l)::zl (l.drop (zQ l+1))
 | [],h=>by simp at h
 | c::r,h=>by
   rw [kx] at h ⊢
   by_cases e:c=47
   · subst e; simp [zl]
   · rw [if_neg e] at h ⊢
     have ih:=jY r (by rw [List.length_cons] at h; omega)
     have e2:zl (c::r)=(c::(zl r).headD [])::(zl r).tail:=by rw [zl,if_neg e]
     rw [e2,ih]
     simp
theorem kO : ∀ (l:List Nat),¬ zQ l<l.length→zl l=[l]
 | [],_=>rfl
 | c::r,h=>by
   rw [kx] at h
   by_cases e:c=47
   · rw [if_pos e] at h; simp at h
   · rw [if_neg e] at h
     have ih:=kO r (by rw [List.length_cons] at h; omega)
     have e2:zl (c::r)=(c::(zl r).headD [])::(zl r).tail:=by rw [zl,if_neg e]
     rw [e2,ih]
     simp
theorem Ys (l:List Nat):(zl l).headD []=l.take (zQ l):=by
 by_cases h:zQ l<l.length
 · rw [jY l h]; rfl
 · rw [kO l h,List.headD_cons,List.take_of_length_le (by omega)]
theorem xO (L:List UInt8):Lib.indexByte L 47=if zQ (L.map UInt8.toNat)<L.length then (zQ (L.map UInt8.toNat):Int) else -1:=by
 induction L with
 | nil=>rfl
 | cons b l ih =>
   have hb:(b==47)=decide (b.toNat=47):=by
    rw [Bool.eq_iff_iff]; simp [← UInt8.toNat_inj]
   rw [List.map_cons,kx,Lib.indexByte,hb,ih]
   by_cases e:b.toNat=47
   · simp [e]
   · rw [if_neg (by simp [e]),if_neg e]
     by_cases h:zQ (l.map UInt8.toNat)<l.length
     · have h1:(((zQ (l.map UInt8.toNat):Nat):Int) == -1)=false:=by rw [beq_eq_false_iff_ne]; omega
       rw [if_pos h,h1,if_pos (show zQ (l.map UInt8.toNat)+1<(b::l).length by rw [List.length_cons]; omega)]; simp
     · rw [if_neg h,if_neg (show ¬ zQ (l.map UInt8.toNat)+1<(b::l).length by rw [List.length_cons]; omega)]; rfl
set_option maxRecDepth 100000 in
theorem JP (s:ByteArray) (w:World):Calls Tryz.prog 186 #[.string s,.int .u8 47] w fun e w'=>e = .returned (.int .i64 (Lib.indexByte s.data.toList 47))∧w=w':=by
 go_enter Tryz.func186,Tryz.ntmps186
 go_wp2
 rw [run_callFunc_extern Tryz.func220 (by kernel_rfl) (by kernel_rfl) (by kernel_rfl) (e:=Extern.BytealgIndexByte.indexByte) (by kernel_rfl),Lib.run_indexByteString]
 simp only [Result.andThen]
 rw [Oper.upon_value]
 go_wp2
 go_ret
 exact ⟨rfl,rfl⟩
set_option maxRecDepth 100000 in
theorem kM (s:ByteArray) (w:World):Calls Tryz.prog 142 #[.string s,.string { data := #[47] }] w fun e w'=>e = .returned (.int .i64 (Lib.indexByte s.data.toList 47))∧w=w':=by
 cases hq:([47]==s.toList) with
 | true =>
   have e1:s.toList=[47]:=(beq_iff_eq.1 hq).symm
   have HZ:=Lib.hid (show Lib.indexByte s.data.toList 47=0 from by rw [ByteArray.toList_eq] at e1; rw [e1]; rfl)
   clear e1
   go_enter Tryz.func142,Tryz.ntmps142
   go_wp2
   go_ret
   exact ⟨by rw [HZ.out]; rfl,rfl⟩
 | false =>
   go_enter Tryz.func142,Tryz.ntmps142
   go_wp2_with (go_at_call 186; refine (JP _ _).mono ?_; rintro e w' ⟨rfl,rfl⟩)
   go_ret
   exact ⟨rfl,rfl⟩
theorem JE (s:ByteArray) (w:World):Calls Tryz.prog 97 #[.string s,.string { data := #[47] }] w fun e w'=>e = .returned (.int .i64 (Lib.indexByte s.data.toList 47))∧w=w':=by
 go_enter Tryz.func97,Tryz.ntmps97
 go_wp2_with (go_at_call 142; refine (kM _ _).mono ?_; rintro e w' ⟨rfl,rfl⟩)
 go_ret
 exact ⟨rfl,rfl⟩
theorem Wh (s:ByteArray) (w:World) (h:zQ (ze s)<s.size):Calls Tryz.prog 142 #[.string s,.string { data := #[47] }] w fun e w'=>e = .returned (.int .i64 (zQ (ze s):Nat))∧w=w' :=
 (kM s w).mono fun e w' ⟨h1,h2⟩=>⟨by rw [h1,xO]; unfold ze at h ⊢; rw [if_pos (by exact h)],h2⟩
theorem zay (s:ByteArray) (w:World) (h : ¬ zQ (ze s)<s.size):Calls Tryz.prog 142 #[.string s,.string { data := #[47] }] w fun e w'=>e = .returned (.int .i64 (-1))∧w=w' :=
 (kM s w).mono fun e w' ⟨h1,h2⟩=>⟨by rw [h1,xO]; unfold ze at h; rw [if_neg (by exact h)],h2⟩
theorem zbQ (s:ByteArray) (w:World) (h:zQ (ze s)<s.size):Calls Tryz.prog 97 #[.string s,.string { data := #[47] }] w fun e w'=>e = .returned (.int .i64 (zQ (ze s):Nat))∧w=w' :=
 (JE s w).mono fun e w' ⟨h1,h2⟩=>⟨by rw [h1,xO]; unfold ze at h ⊢; rw [if_pos (by exact h)],h2⟩
theorem zbX (s:ByteArray) (w:World) (h : ¬ zQ (ze s)<s.size):Calls Tryz.prog 97 #[.string s,.string { data := #[47] }] w fun e w'=>e = .returned (.int .i64 (-1))∧w=w' :=
 (JE s w).mono fun e w' ⟨h1,h2⟩=>⟨by rw [h1,xO]; unfold ze at h; rw [if_neg (by exact h)],h2⟩
theorem zr (s:ByteArray) (a b:Nat):ze (s.extract a b)=((ze s).drop a).take (b-a):=by
 simp [ze,ByteArray.data_extract,List.map_take,List.map_drop]
theorem jc (s:ByteArray) (n:Nat):s.extract 0 n=zf ((ze s).take n):=by
 rw [← zw (s.extract 0 n),zr]; simp
set_option maxRecDepth 100000 in
theorem zco (s:ByteArray) (w:World) (hs:s.size≤9223372036854775807):Calls Tryz.prog 148 #[.string s,.string { data := #[47] }] w fun e w'=>(∃ r b,e = .returned (.tuple #[.string (zf ((zl (ze s)).headD [])),.string r,.bool b]))∧Upd [] w w':=by
 have HT:=Lib.hid (Ys (ze s))
 have hl:=zg s
 have h0:=zaW (ze s)
 by_cases h:zQ (ze s)<s.size
 · have HY:=Lib.hid (fun w=>Wh s w h)
   have HE:=Lib.hid (jc s (zQ (ze s)))
   generalize zQ (ze s)=f at *
   clear hl h0
   go_enter Tryz.func148,Tryz.ntmps148
   go_wp2_with (go_at_call 142; refine (HY.out _).mono ?_; rintro e w' ⟨rfl,rfl⟩)
   go_quiet (fail)
   go_wp2
   go_ret3
   exact ⟨⟨s.extract (f+1) s.size,true,by rw [HT.out,← HE.out]; rfl⟩,(Upd.refl _ _).drewN _⟩
 · have HY:=Lib.hid (fun w=>zay s w h)
   have HE:=Lib.hid (jc s (zQ (ze s)))
   have e1:(ze s).take (zQ (ze s))=ze s:=List.take_of_length_le (by omega)
   rw [e1] at HT
   clear hl h0 HE e1 h
   go_enter Tryz.func148,Tryz.ntmps148
   go_wp2_with (go_at_call 142; refine (HY.out _).mono ?_; rintro e w' ⟨rfl,rfl⟩)
   go_ret3
   exact ⟨⟨{ data := #[] },false,by rw [HT.out,zw]; rfl⟩,Upd.refl _ _⟩
theorem zej (s:ByteArray) (w:World) (hs:s.size≤9223372036854775807):Calls Tryz.prog 103 #[.string s,.string { data := #[47] }] w fun e w'=>(∃ r b,e = .returned (.tuple #[.string (zf ((zl (ze s)).headD [])),.string r,.bool b]))∧Upd [] w w':=by
 have HC:=Lib.hid (fun w=>zco s w hs)
 generalize (zl (ze s)).headD []=hd at *
 go_enter Tryz.func103,Tryz.ntmps103
 go_wp2_with (go_at_call 148; refine (HC.out _).mono ?_; rintro e w' ⟨⟨r,b,rfl⟩,hU⟩)
 go_ret3
 exact ⟨⟨r,b,rfl⟩,hU⟩
end Go.Proofs.YtigjingielnaoaaGreatDoor
namespace Go.Proofs.YtigjingielnaoaaGreatDoor
open Go.RowKit
theorem jM : ∀ (m:Nat) (lo hi:Nat) (l:List Nat),xS lo hi m l=true↔m≤l.length ∧ ∀ i x,i<m→l[i]? =some x→(if i=0 then lo else 128)≤x∧x≤(if i=0 then hi else 191)
 | 0,lo,hi,l=>by simp [xS]
 | m+1,lo,hi,[]=>by simp [xS]
 | m+1,lo,hi,b::r=>by
   simp only [xS,Bool.and_eq_true,decide_eq_true_eq,jM m 128 191 r,List.length_cons]
   constructor
   · rintro ⟨⟨h1,h2⟩,h3,h4⟩
     refine ⟨by omega,fun i x hi hx=>?_⟩
     cases i with
     | zero=>simp at hx; subst hx; exact ⟨h1,h2⟩
     | succ i =>
       have:=h4 i x (by omega) (by simpa using hx)
       rw [if_neg (by omega),if_neg (by omega)]
       split at this<;>exact this
   · rintro ⟨h1,h2⟩
     refine ⟨by simpa using h2 0 b (by omega) (by simp),by omega,fun i x hi hx=>?_⟩
     have:=h2 (i+1) x (by omega) (by simpa using hx)
     rw [if_neg (by omega),if_neg (by omega)] at this
     split<;>exact this
section
variable {L:List Nat} {c n lo hi:Nat}
theorem Xr (h0:L[0]? =some c) (hp:zm c=(n,lo,hi)):jp L=(decide (n≠0)&&xS lo hi (n-1) L.tail&&jp (L.drop n))∨n=0:=by
 cases L with
 | nil=>simp at h0
 | cons b r =>
   simp at h0; subst h0
   by_cases e:n=0
   · exact .inr e
   · left
     rw [Xg,hp]
     obtain ⟨m,rfl⟩ : ∃ m,n=m+1:=⟨n-1,by omega⟩
     simp
theorem Zi (h0:L[0]? =some c) (hp:zm c=(0,lo,hi)):jp L=false:=by
 cases L with
 | nil=>simp at h0
 | cons b r =>
   simp at h0; subst h0
   rw [Xg,hp]; simp
theorem zb6 (h0:L[0]? =some c) (hp:zm c=(n,lo,hi)) (h:xS lo hi (n-1) L.tail=false):jp L=false:=by
 rcases Xr h0 hp with e | e
 · rw [e,h]; simp
 · subst e; exact Zi h0 hp
theorem VM (h0:L[0]? =some c) (hp:zm c=(n,lo,hi)) (h:L.length<n):jp L=false:=by
 refine zb6 h0 hp ?_
 cases ht:xS lo hi (n-1) L.tail with
 | false=>rfl
 | true =>
   have:=((jM _ _ _ _).1 ht).1
   have:0<L.length:=by cases L with
    | nil=>simp at h0
    | cons=>simp
   simp at *; omega
theorem JR (h0:L[0]? =some c) (hp:zm c=(n,lo,hi)) {i x:Nat} (hi1:1≤i) (hin:i<n) (hx:L[i]? =some x) (h : ¬ ((if i=1 then lo else 128)≤x∧x≤(if i=1 then hi else 191))):jp L=false:=by
 refine zb6 h0 hp ?_
 cases ht:xS lo hi (n-1) L.tail with
 | false=>rfl
 | true =>
   exfalso; apply h
   have:=((jM _ _ _ _).1 ht).2 (i-1) x (by omega) (by rw [List.getElem?_tail]; rw [show i-1+1=i by omega]; exact hx)
   by_cases e:i=1
   · subst e; simpa using this
   · rw [if_neg (by omega),if_neg (by omega)] at this; rw [if_neg e,if_neg e]; exact this
theorem Yn (h0:L[0]? =some c) (hp:zm c=(n,lo,hi)) (hn:1≤n) (hl:n≤L.length) (h : ∀ i x,1≤i→i<n→L[i]? =some x→(if i=1 then lo else 128)≤x∧x≤(if i=1 then hi else 191)):jp L=jp (L.drop n):=by
 rcases Xr h0 hp with e | e
 · have ht:xS lo hi (n-1) L.tail=true:=by
    refine (jM _ _ _ _).2 ⟨by simp; omega,fun i x hi hx=>?_⟩
    have:=h (i+1) x (by omega) (by omega) (by rw [List.getElem?_tail] at hx; exact hx)
    by_cases e:i=0
    · subst e; simpa using this
    · rw [if_neg (by omega),if_neg (by omega)] at this; rw [if_neg e,if_neg e]; exact this
   rw [e,ht,decide_eq_true (by omega)]; simp
 · omega
end
theorem bytesOf_get? (s:ByteArray) (i:Nat) (h:i<s.size):(ze s)[i]? =some s[i].toNat:=by
 rw [List.getElem?_eq_getElem (by rw [zg]; exact h),yE s i h]
theorem jU (s:ByteArray) (n:Nat):ze (s.extract n s.size)=(ze s).drop n:=by
 rw [zr,List.take_of_length_le (by rw [List.length_drop,zg]; omega)]
theorem Kr (r:ByteArray) (h:r.size=0):r.toList=[]:=by
 rw [ByteArray.toList_eq]; exact List.eq_nil_of_length_eq_zero (by rw [Array.length_toList]; exact h)
theorem Vx (r:ByteArray) (h:0<r.size):(!r.toList.isEmpty)=true:=by
 rw [ByteArray.toList_eq]
 cases hh:r.data.toList with
 | nil =>
   exfalso
   have h1:r.data.toList.length=r.size:=by rw [Array.length_toList]; rfl
   rw [hh] at h1; simp at h1; omega
 | cons=>rfl
set_option maxRecDepth 100000 in
set_option maxHeartbeats 4000000 in
theorem Vu (s:ByteArray) (w:World) (hs:s.size≤9223372036854775807):Calls Tryz.prog 149 #[.string s] w fun e w'=>e = .returned (.bool (jp (ze s)))∧w=w':=by
 go_enter Tryz.func149,Tryz.ntmps149
 go_wp2
 go_loopg [0] s.size (fun g t wr => ∃ r:ByteArray,t = .string r∧g=r.size∧r.size≤s.size∧Hid (jp (ze s)=jp (ze r))∧w=wr)
 case atStart=>exact ⟨s,rfl,rfl,Nat.le_refl _,Lib.hid rfl,rfl⟩
 case round =>
  obtain ⟨r,rfl,rfl,hrs,HU,rfl⟩:=hrel
  by_cases hz:r.size=0
  · have hE:jp (ze r)=true:=by
     have e0:ze r=[]:=List.eq_nil_of_length_eq_zero (by rw [zg]; exact hz)
     rw [e0]; rfl
    have HE:=Lib.hid (HU.out.trans hE)
    have e2:(!r.toList.isEmpty)=false:=by rw [Kr r hz]; rfl
    clear hE HU hz
    go_wp2
    go_ret
    exact ⟨by rw [HE.out]; rfl,rfl⟩
  · have hpos:0<r.size:=by omega
    have hr1:r.size≤9223372036854775807:=by omega
    have e2:(!r.toList.isEmpty)=true:=Vx r hpos
    have HL:=Lib.hid (fun w=>Kn r w hpos hr1)
    have hg0:=bytesOf_get? r 0 hpos
    have hle:=QH r[0].toNat
    obtain ⟨⟨n,lo,hi⟩,hp⟩ : ∃ p,zm r[0].toNat=p:=⟨_,rfl⟩
    rw [hp] at HL hle
    have HP:=Lib.hid hp
    have HG:=Lib.hid hg0
    unfold zeQ at HL
    dsimp only at HL hle
    clear hz hp hg0
    by_cases c0:n=0
    · subst c0
      have HE:=Lib.hid (HU.out.trans (Zi HG.out HP.out))
      clear HU HG HP hrs
      go_wp2_with (go_at_call 191; refine (HL.out _).mono ?_; rintro e w' ⟨rfl,rfl⟩)
      go_ret
      exact ⟨by rw [HE.out]; rfl,rfl⟩
    · have t0:((n:Int)==0)=false:=by rw [beq_eq_false_iff_ne]; omega
      by_cases c1:r.size<n
      · have HE:=Lib.hid (HU.out.trans (VM HG.out HP.out (by rw [zg]; exact c1)))
        clear HU HG HP hrs
        go_wp2_with (go_at_call 191; refine (HL.out _).mono ?_; rintro e w' ⟨rfl,rfl⟩)
        go_ret
        exact ⟨by rw [HE.out]; rfl,rfl⟩
      · have hn1:1≤n:=by omega
        have hnr:n≤r.size:=by omega
        have t1:decide (r.size<n)=false:=decide_eq_false c1
        by_cases c2:2≤n
        · have h1r:1<r.size:=by omega
          have HG1:=Lib.hid (bytesOf_get? r 1 h1r)
          have t2:decide (1<n)=true:=decide_eq_true (by omega)
          by_cases c3:lo≤r[1].toNat∧r[1].toNat≤hi
          · have HS2:Hid (∀ x,1<n→(ze r)[1]? =some x→lo≤x∧x≤hi):=Lib.hid (fun x _ h=>by rw [HG1.out] at h; simp at h; subst h; exact c3)
            have t3:decide (r[1].toNat<lo)=false:=decide_eq_false (by omega)
            have t4:decide (hi<r[1].toNat)=false:=decide_eq_false (by omega)
            clear c3 HG1
            go_wp2_with (go_at_call 191; refine (HL.out _).mono ?_; rintro e w' ⟨rfl,rfl⟩)
            clear HL
            go_loopg [6] (n-2) (fun g t wr => ∃ j:Nat,t = .int .i64 (j:Nat)∧2≤j∧j≤n+1∧g=n-j∧Hid (∀ i x,2≤i→i<j→(ze r)[i]? =some x→128≤x∧x≤191)∧w=wr)
            case atStart=>exact ⟨2,rfl,Nat.le_refl _,by omega,rfl,Lib.hid (fun i x h1 h2=>by omega),rfl⟩
            case round =>
             obtain ⟨j,rfl,hj2,hjn,rfl,HA,rfl⟩:=hrel
             by_cases cj:j<n
             · have hjr:j<r.size:=by omega
               have HGJ:=Lib.hid (bytesOf_get? r j hjr)
               by_cases cb:128≤r[j].toNat∧r[j].toNat≤191
               · have t5:decide ((r[j].toNat:Int)<128)=false:=decide_eq_false (by omega)
                 have t6:decide (191<(r[j].toNat:Int))=false:=decide_eq_false (by omega)
                 have HA2:Hid (∀ i x,2≤i→i<j+1→(ze r)[i]? =some x→128≤x∧x≤191):=Lib.hid (fun i x h1 h2 h3=>by
                  by_cases e:i=j
                  · subst e; rw [HGJ.out] at h3; simp at h3; omega
                  · exact HA.out i x h1 (by omega) h3)
                 clear HA HGJ cb
                 go_wp2
                 go_roundg (n-(j+1))
                 all_goals first
                  | omega
                  | exact ⟨j+1,by go_num,by omega,by omega,rfl,HA2,rfl⟩
               · have HE:=Lib.hid (HU.out.trans (JR HG.out HP.out (i:=j) (by omega) (by omega) HGJ.out (by rw [if_neg (by omega),if_neg (by omega)]; exact cb)))
                 clear HA HGJ HU HG HP HS2
                 by_cases cl:r[j].toNat<128
                 · have t5:decide ((r[j].toNat:Int)<128)=true:=decide_eq_true (by omega)
                   clear cb
                   go_wp2
                   go_ret
                   exact ⟨by rw [HE.out]; rfl,rfl⟩
                 · have t5:decide ((r[j].toNat:Int)<128)=false:=decide_eq_false (by omega)
                   have t6:decide (191<(r[j].toNat:Int))=true:=decide_eq_true (by omega)
                   clear cb
                   go_wp2
                   go_ret
                   exact ⟨by rw [HE.out]; rfl,rfl⟩
             · have hlen:=zg r
               have HE:=Lib.hid (HU.out.trans (Yn HG.out HP.out hn1 (by omega) (fun i x h1 h2 h3=>by
                by_cases e:i=1
                · subst e; rw [if_pos rfl,if_pos rfl]; exact HS2.out x (by omega) h3
                · rw [if_neg e,if_neg e]; exact HA.out i x (by omega) (by omega) h3)))
               have HSZ:Hid ((r.extract n r.size).size=r.size-n):=Lib.hid (by rw [ByteArray.size_extract]; omega)
               rw [← jU] at HE
               clear HA HU HG HP HS2 hlen
               go_wp2
               go_roundg (r.size-n)
               all_goals first
                | omega
                | exact ⟨r.extract n r.size,rfl,HSZ.out.symm,by rw [HSZ.out]; omega,HE,rfl⟩
          · have HE:=Lib.hid (HU.out.trans (JR HG.out HP.out (i:=1) (by omega) (by omega) HG1.out (by simpa using c3)))
            clear HU HG HP HG1 hrs
            by_cases c4:r[1].toNat<lo
            · have t3:decide (r[1].toNat<lo)=true:=decide_eq_true c4
              clear c3
              go_wp2_with (go_at_call 191; refine (HL.out _).mono ?_; rintro e w' ⟨rfl,rfl⟩)
              go_ret
              exact ⟨by rw [HE.out]; rfl,rfl⟩
            · have t3:decide (r[1].toNat<lo)=false:=decide_eq_false c4
              have t4:decide (hi<r[1].toNat)=true:=decide_eq_true (by omega)
              clear c3
              go_wp2_with (go_at_call 191; refine (HL.out _).mono ?_; rintro e w' ⟨rfl,rfl⟩)
              go_ret
              exact ⟨by rw [HE.out]; rfl,rfl⟩
        · have t2:decide (1<n)=false:=decide_eq_false (by omega)
          have HS2:Hid (∀ x,1<n→(ze r)[1]? =some x→lo≤x∧x≤hi):=Lib.hid (fun x h _=>by omega)
          go_wp2_with (go_at_call 191; refine (HL.out _).mono ?_; rintro e w' ⟨rfl,rfl⟩)
          clear HL
          go_loopg [6] (n-2) (fun g t wr => ∃ j:Nat,t = .int .i64 (j:Nat)∧2≤j∧j≤n+1∧g=n-j∧Hid (∀ i x,2≤i→i<j→(ze r)[i]? =some x→128≤x∧x≤191)∧w=wr)
          case atStart=>exact ⟨2,rfl,Nat.le_refl _,by omega,rfl,Lib.hid (fun i x h1 h2=>by omega),rfl⟩
          case round =>
           obtain ⟨j,rfl,hj2,hjn,rfl,HA,rfl⟩:=hrel
           by_cases cj:j<n
           · have hjr:j<r.size:=by omega
             have HGJ:=Lib.hid (bytesOf_get? r j hjr)
             by_cases cb:128≤r[j].toNat∧r[j].toNat≤191
             · have t5:decide ((r[j].toNat:Int)<128)=false:=decide_eq_false (by omega)
               have t6:decide (191<(r[j].toNat:Int))=false:=decide_eq_false (by omega)
               have HA2:Hid (∀ i x,2≤i→i<j+1→(ze r)[i]? =some x→128≤x∧x≤191):=Lib.hid (fun i x h1 h2 h3=>by
                by_cases e:i=j
                · subst e; rw [HGJ.out] at h3; simp at h3; omega
                · exact HA.out i x h1 (by omega) h3)
               clear HA HGJ cb
               go_wp2
               go_roundg (n-(j+1))
               all_goals first
                | omega
                | exact ⟨j+1,by go_num,by omega,by omega,rfl,HA2,rfl⟩
             · have HE:=Lib.hid (HU.out.trans (JR HG.out HP.out (i:=j) (by omega) (by omega) HGJ.out (by rw [if_neg (by omega),if_neg (by omega)]; exact cb)))
               clear HA HGJ HU HG HP HS2
               by_cases cl:r[j].toNat<128
               · have t5:decide ((r[j].toNat:Int)<128)=true:=decide_eq_true (by omega)
                 clear cb
                 go_wp2
                 go_ret
                 exact ⟨by rw [HE.out]; rfl,rfl⟩
               · have t5:decide ((r[j].toNat:Int)<128)=false:=decide_eq_false (by omega)
                 have t6:decide (191<(r[j].toNat:Int))=true:=decide_eq_true (by omega)
                 clear cb
                 go_wp2
                 go_ret
                 exact ⟨by rw [HE.out]; rfl,rfl⟩
           · have hlen:=zg r
             have HE:=Lib.hid (HU.out.trans (Yn HG.out HP.out hn1 (by omega) (fun i x h1 h2 h3=>by
              by_cases e:i=1
              · subst e; rw [if_pos rfl,if_pos rfl]; exact HS2.out x (by omega) h3
              · rw [if_neg e,if_neg e]; exact HA.out i x (by omega) (by omega) h3)))
             have HSZ:Hid ((r.extract n r.size).size=r.size-n):=Lib.hid (by rw [ByteArray.size_extract]; omega)
             rw [← jU] at HE
             clear HA HU HG HP HS2 hlen
             go_wp2
             go_roundg (r.size-n)
             all_goals first
              | omega
              | exact ⟨r.extract n r.size,rfl,HSZ.out.symm,by rw [HSZ.out]; omega,HE,rfl⟩
end Go.Proofs.YtigjingielnaoaaGreatDoor
