/- Package name: letter. -/
import Derived.WalkKit
import Derived.Handy
import Derived.Lib.Hide
import Derived.Test.YtfkcdnaghndgfaaGreatDoorProg
import Derived.Test.YtfkcdnaghndgfaaGreatDoorQAM
import Derived.RangeFuncNested
import Derived.RangeFuncBound
import Derived.RangeFuncCalls
import Derived.RangeFuncLeaves
import Derived.Test.YtfkcdnaghndgfaaGreatDoorQAA
import Derived.Shelf.Abstract
import Derived.Shelf.RegionOpen
import Derived.OwnWalkIn
import Derived.TacticsInMore
import Derived.LoopNIn
import Derived.LoopIn
import Derived.Sort.LoopGhostIn
import Derived.Lib.Bytealg
import Derived.Outline
import Derived.Deep.QuietTactic
import Derived.BigQuiet
set_option linter.unusedVariables false
set_option linter.unusedSimpArgs false
set_option linter.unusedSectionVars false
namespace Go.Proofs.YtfkcdnaghndgfaaGreatDoor
open Go.RowKit
def ziR (p:Nat×Nat×Nat):Value := .tuple #[.int .i64 (p.1:Nat),.int .u8 (p.2.1:Nat),.int .u8 (p.2.2:Nat)]
set_option maxRecDepth 100000 in
set_option maxHeartbeats 4000000 in
theorem zcw (s:ByteArray) (w:World) (h:0<s.size) (hs:s.size≤9223372036854775807):Calls Tryz.prog 204 #[.string s] w fun e w' =>
 e = .returned (ziR (zj s[0].toNat))∧w=w':=by
 have hlt:=s[0].toNat_lt
 have ways:(s[0].toNat<128)∨(128≤s[0].toNat∧s[0].toNat<194)∨(194≤s[0].toNat∧s[0].toNat≤223)∨(s[0].toNat=224)∨(225≤s[0].toNat∧s[0].toNat<237)∨(s[0].toNat=237)∨(238≤s[0].toNat∧s[0].toNat≤239)∨(s[0].toNat=240)∨(241≤s[0].toNat∧s[0].toNat≤243)∨(s[0].toNat=244)∨(245≤s[0].toNat):=by omega
 rcases ways with h0 | h0 | h0 | h0 | h0 | h0 | h0 | h0 | h0 | h0 | h0
 · have HV:Hid (zj s[0].toNat=(1,0,0)):=Lib.hid (by
    unfold zj
    repeat' split
    all_goals first | rfl | (exfalso; omega))
   rw [HV.out]
   go_enter Tryz.func204,Tryz.ntmps204
   go_wp2
   all_goals first
    | (go_ret; exact ⟨rfl,rfl⟩)
    | (refine bodyPost_ret (results_tmp3 rfl _ _ _) rfl ⟨rfl,rfl⟩)
    | (exfalso; omega)
 · have HV:Hid (zj s[0].toNat=(0,0,0)):=Lib.hid (by
    unfold zj
    repeat' split
    all_goals first | rfl | (exfalso; omega))
   rw [HV.out]
   go_enter Tryz.func204,Tryz.ntmps204
   go_wp2
   all_goals first
    | (go_ret; exact ⟨rfl,rfl⟩)
    | (refine bodyPost_ret (results_tmp3 rfl _ _ _) rfl ⟨rfl,rfl⟩)
    | (exfalso; omega)
 · have HV:Hid (zj s[0].toNat=(2,128,191)):=Lib.hid (by
    unfold zj
    repeat' split
    all_goals first | rfl | (exfalso; omega))
   rw [HV.out]
   go_enter Tryz.func204,Tryz.ntmps204
   go_wp2
   all_goals first
    | (go_ret; exact ⟨rfl,rfl⟩)
    | (refine bodyPost_ret (results_tmp3 rfl _ _ _) rfl ⟨rfl,rfl⟩)
    | (exfalso; omega)
 · have HV:Hid (zj s[0].toNat=(3,160,191)):=Lib.hid (by
    unfold zj
    repeat' split
    all_goals first | rfl | (exfalso; omega))
   rw [HV.out]
   go_enter Tryz.func204,Tryz.ntmps204
   go_wp2
   all_goals first
    | (go_ret; exact ⟨rfl,rfl⟩)
    | (refine bodyPost_ret (results_tmp3 rfl _ _ _) rfl ⟨rfl,rfl⟩)
    | (exfalso; omega)
 · have HV:Hid (zj s[0].toNat=(3,128,191)):=Lib.hid (by
    unfold zj
    repeat' split
    all_goals first | rfl | (exfalso; omega))
   rw [HV.out]
   go_enter Tryz.func204,Tryz.ntmps204
   go_wp2
   all_goals first
    | (go_ret; exact ⟨rfl,rfl⟩)
    | (refine bodyPost_ret (results_tmp3 rfl _ _ _) rfl ⟨rfl,rfl⟩)
    | (exfalso; omega)
 · have HV:Hid (zj s[0].toNat=(3,128,159)):=Lib.hid (by
    unfold zj
    repeat' split
    all_goals first | rfl | (exfalso; omega))
   rw [HV.out]
   go_enter Tryz.func204,Tryz.ntmps204
   go_wp2
   all_goals first
    | (go_ret; exact ⟨rfl,rfl⟩)
    | (refine bodyPost_ret (results_tmp3 rfl _ _ _) rfl ⟨rfl,rfl⟩)
    | (exfalso; omega)
 · have HV:Hid (zj s[0].toNat=(3,128,191)):=Lib.hid (by
    unfold zj
    repeat' split
    all_goals first | rfl | (exfalso; omega))
   rw [HV.out]
   go_enter Tryz.func204,Tryz.ntmps204
   go_wp2
   all_goals first
    | (go_ret; exact ⟨rfl,rfl⟩)
    | (refine bodyPost_ret (results_tmp3 rfl _ _ _) rfl ⟨rfl,rfl⟩)
    | (exfalso; omega)
 · have HV:Hid (zj s[0].toNat=(4,144,191)):=Lib.hid (by
    unfold zj
    repeat' split
    all_goals first | rfl | (exfalso; omega))
   rw [HV.out]
   go_enter Tryz.func204,Tryz.ntmps204
   go_wp2
   all_goals first
    | (go_ret; exact ⟨rfl,rfl⟩)
    | (refine bodyPost_ret (results_tmp3 rfl _ _ _) rfl ⟨rfl,rfl⟩)
    | (exfalso; omega)
 · have HV:Hid (zj s[0].toNat=(4,128,191)):=Lib.hid (by
    unfold zj
    repeat' split
    all_goals first | rfl | (exfalso; omega))
   rw [HV.out]
   go_enter Tryz.func204,Tryz.ntmps204
   go_wp2
   all_goals first
    | (go_ret; exact ⟨rfl,rfl⟩)
    | (refine bodyPost_ret (results_tmp3 rfl _ _ _) rfl ⟨rfl,rfl⟩)
    | (exfalso; omega)
 · have HV:Hid (zj s[0].toNat=(4,128,143)):=Lib.hid (by
    unfold zj
    repeat' split
    all_goals first | rfl | (exfalso; omega))
   rw [HV.out]
   go_enter Tryz.func204,Tryz.ntmps204
   go_wp2
   all_goals first
    | (go_ret; exact ⟨rfl,rfl⟩)
    | (refine bodyPost_ret (results_tmp3 rfl _ _ _) rfl ⟨rfl,rfl⟩)
    | (exfalso; omega)
 · have HV:Hid (zj s[0].toNat=(0,0,0)):=Lib.hid (by
    unfold zj
    repeat' split
    all_goals first | rfl | (exfalso; omega))
   rw [HV.out]
   go_enter Tryz.func204,Tryz.ntmps204
   go_wp2
   all_goals first
    | (go_ret; exact ⟨rfl,rfl⟩)
    | (refine bodyPost_ret (results_tmp3 rfl _ _ _) rfl ⟨rfl,rfl⟩)
    | (exfalso; omega)
end Go.Proofs.YtfkcdnaghndgfaaGreatDoor
namespace Go.Proofs.YtfkcdnaghndgfaaGreatDoor
def zi:List Nat→List (List Nat)
 | []=>[[]]
 | c::r=>if c=47 then []::zi r else (c::(zi r).headD [])::(zi r).tail
theorem VF (l:List Nat):zi l≠[]:=by
 cases l with
 | nil=>simp [zi]
 | cons c r=>unfold zi; split<;>simp
theorem jC (l:List Nat):zi l=(zi l).headD []::(zi l).tail:=by
 cases h:zi l with
 | nil=>exact absurd h (VF l)
 | cons a b=>rfl
def vK (s:List Nat) (L:List (List Nat)):List (List Nat):=(s++L.headD [])::L.tail
theorem Vz (l:List Nat):vK [] (zi l)=zi l:=(jC l).symm
theorem zat (s r:List Nat):vK s (zi (47::r))=s::vK [] (zi r):=by
 rw [Vz]; simp [vK,zi]
theorem zbe (s r:List Nat) (c:Nat) (h:c≠47):vK s (zi (c::r))=vK (s++[c]) (zi r):=by
 have e:zi (c::r)=(c::(zi r).headD [])::(zi r).tail:=by rw [zi,if_neg h]
 rw [e]; simp [vK]
theorem Xe : ∀ (l:List Nat),(zi l).length≤l.length+1
 | []=>by simp [zi]
 | c::r=>by
   have ih:=Xe r
   unfold zi
   split
   · simp; omega
   · simp [List.length_tail]; omega
theorem vq : ∀ (l:List Nat) (p:List Nat),p∈zi l → ∀ x∈p,x∈l
 | [],p,h,x,hx=>by simp [zi] at h; subst h; exact hx
 | c::r,p,h,x,hx=>by
   unfold zi at h
   split at h
   · rcases List.mem_cons.1 h with rfl | h
     · simp at hx
     · exact List.mem_cons_of_mem _ (vq r p h x hx)
   · rcases List.mem_cons.1 h with rfl | h
     · rcases List.mem_cons.1 hx with rfl | hx
       · simp
       · refine List.mem_cons_of_mem _ (vq r ((zi r).headD []) ?_ x hx)
         rw [jC r]; simp
     · exact List.mem_cons_of_mem _ (vq r p (List.mem_of_mem_tail h) x hx)
theorem kj : ∀ (l:List Nat) (p:List Nat),p∈zi l→p.length≤l.length
 | [],p,h=>by simp [zi] at h; subst h; exact Nat.le_refl _
 | c::r,p,h=>by
   unfold zi at h
   split at h
   · rcases List.mem_cons.1 h with rfl | h
     · exact Nat.zero_le _
     · have:=kj r p h; simp; omega
   · rcases List.mem_cons.1 h with rfl | h
     · have:=kj r ((zi r).headD []) (by rw [jC r]; simp); simp at *; omega
     · have:=kj r p (List.mem_of_mem_tail h); simp; omega
def JM:List Nat:=[46,115,119,105,110,103,108,101]
def yh (l:List Nat):Bool:=decide (l.length≤200)&&decide ((zi l).headD []≠JM)&&decide ((zi l).length≤12)&&(zi l).all yd
theorem Zn {l:List Nat} (h:200<l.length):yh l=false:=by unfold yh; rw [decide_eq_false (by omega)]; rfl
theorem Xn {l:List Nat} (h:(zi l).headD []=JM):yh l=false:=by unfold yh; rw [h]; simp
theorem Zx {l:List Nat} (h:12<(zi l).length):yh l=false:=by unfold yh; rw [decide_eq_false (by omega : ¬ (zi l).length≤12)]; simp
theorem Yj {l p:List Nat} (h:p∈zi l) (hp:yd p=false):yh l=false:=by
 unfold yh
 have:(zi l).all yd=false:=by rw [List.all_eq_false]; exact ⟨p,h,by simp [hp]⟩
 rw [this]; simp
theorem XE {l:List Nat} (h1:l.length≤200) (h2:(zi l).headD []≠JM) (h3:(zi l).length≤12) (h4 : ∀ p∈zi l,yd p=true):yh l=true:=by
 unfold yh
 rw [decide_eq_true h1,decide_eq_true h2,decide_eq_true h3,List.all_eq_true.2 h4]; rfl
theorem XC {l:List Nat} (h:yh l=true):l.length≤200:=by
 unfold yh at h; simp only [Bool.and_eq_true,decide_eq_true_eq] at h; exact h.1.1.1
end Go.Proofs.YtfkcdnaghndgfaaGreatDoor
namespace Go.Proofs.YtfkcdnaghndgfaaGreatDoor
open Go.RowKit
def Keep (ks:List Nat) (W W':World):Prop:=W.heap.size≤W'.heap.size ∧ ∀ k∈ks,W'.heap[k]? =W.heap[k]?
theorem Keep.refl (ks:List Nat) (W:World):Keep ks W W:=⟨Nat.le_refl _,fun _ _=>rfl⟩
theorem Keep.trans {ks:List Nat} {A B C:World} (h:Keep ks A B) (k:Keep ks B C):Keep ks A C:=⟨Nat.le_trans h.1 k.1,fun i hi=>(k.2 i hi).trans (h.2 i hi)⟩
theorem Keep.putObj {ks:List Nat} {W:World} {l:Nat} (o:Obj) (hl : ∀ k∈ks,k≠l):Keep ks W (W.putObj l o):=⟨by simp,fun k hk=>World.putObj_heap_other (hl k hk)⟩
theorem Keep.of_upd {ks fp:List Nat} {W W':World} (h:Upd fp W W') (hk : ∀ k∈ks,k<W.heap.size∧k∉fp):Keep ks W W':=⟨h.size,fun k hm=>h.block k (hk k hm).1 (hk k hm).2⟩
def Own2 (fp:List Nat) (A B:World):Prop:=Upd fp A B∧KeepsOthers A B
theorem Own2.refl (fp:List Nat) (A:World):Own2 fp A A:=⟨Upd.refl _ _,KeepsOthers.refl _⟩
theorem Own2.trans {fp:List Nat} {A B C:World} (h:Own2 fp A B) (k:Own2 fp B C):Own2 fp A C:=⟨h.1.then k.1,h.2.trans k.2⟩
theorem Blk.cellsOnly {w:World} {b:Nat} {cs:List Value} {t:TypeId} (h:Blk w b cs t) : ∀ o,w.heap[b]? =some o→o.isCells=true:=fun o ho=>by
 unfold Blk at h; rw [h] at ho; cases ho; rfl
theorem Row.cellsOnly {w:World} {e:TypeId} {size:Nat} {v:Value} {n:Nat} {xs:List Value} (h:Row w e size v n xs) : ∀ g,v.ownBlock=some g → ∀ o,w.heap[g]? =some o→o.isCells=true:=fun g hg o ho=>by
 rcases h.2 with ⟨rfl,rfl⟩ | ⟨g',cap,cur,rfl,hb,hh,_⟩
 · simp [Value.ownBlock] at hg
 · simp [Value.ownBlock] at hg; subst hg; rw [hh] at ho; cases ho; rfl
theorem Upd.others {fp:List Nat} {w w':World} (h:Upd fp w w') (hc : ∀ k,k∈fp → ∀ o,w.heap[k]? =some o→o.isCells=true):KeepsOthers w w' :=
 ⟨h.size,fun k o ho hn=>by
  by_cases hm:k∈fp
  · have:=hc k hm o ho; rw [this] at hn; cases hn
  · exact (h.block k (Array.getElem?_eq_some_iff.1 ho).1 hm).trans ho⟩
theorem zcU {fp fq:List Nat} {w w':World} (h:Upd fq w w') (hs : ∀ k∈fq,k∈fp) (hc : ∀ k,k∈fq → ∀ o,w.heap[k]? =some o→o.isCells=true):Own2 fp w w':=⟨h.mono fun k hk => .inl (hs k hk),h.others hc⟩
theorem zau {β:Type} (B:Nat) (fp:List Nat) (w0:World) (hB:w0.heap.size≤B):OwnFrom B (fun (_:β) W=>Upd fp w0 W):=fun _ W W' row hs hg hr =>
 hs.grown hg (fun k hk => .inr (by have:=(hr k hk).1; omega))
theorem vU {β:Type} (B b:Nat) (f:β→List Value) (t:TypeId):OwnFrom B (fun s W=>Blk W b (f s) t):=fun s W W' row hs hg hr =>
 Blk.grown hs hg (fun e=>by obtain ⟨_,o,ho,hc⟩:=hr b e; rw [Blk.cellsOnly hs o ho] at hc; cases hc)
theorem Row.ownF {w w':World} {e:TypeId} {size:Nat} {v:Value} {n:Nat} {xs:List Value} {row:Option Nat} {B:Nat} (h:Row w e size v n xs) (hg:w.grownBy w' row) (hr : ∀ r,row=some r→B≤r ∧ ∃ o:Obj,w.heap[r]? =some o∧o.isCells=false):Row w' e size v n xs :=
 h.upd ((Upd.refl row.toList w).grown hg (fun k hk => .inl (by simp [hk]))) (fun k hk hm=>by
  simp at hm; obtain ⟨_,o,ho,hc⟩:=hr k hm; rw [h.cellsOnly k hk o ho] at hc; cases hc)
def zhB {α:Type} (P:Program) (g:Nat) (lb:Array Value) (encs:α→Array Value) (fp ks:List Nat) (S Sp:List α→Prop) (N:Nat) (w:World):Prop :=
 ∀ (l:Nat) (J Jx:List α→World→Prop) (W:World),Upd [] w W→W.heap.size=w.heap.size+2→(∀ s A B,J s A→Own2 fp A B→J s B)→(∀ s A B,Jx s A→Own2 fp A B→Jx s B) →
  (∀ pre x W1,J pre W1→pre.length<N→(∀ k∈fp,k<W1.heap.size)→YieldAt Fence.wide 7 P l (encs x) W1 fun e W'=>(e = .returned (.bool true)∧J (pre++[x]) W'∧Keep ks W1 W')∨(e = .returned (.bool false)∧Jx (pre++[x]) W'))→J [] W →
  CallsIn Fence.wide 8 P g (#[.func (.yield l) #[] #[]]++lb) W fun e W'=>(∃ v,e = .returned v)∧((∃ xs,S xs∧J xs W')∨(∃ pre,Sp pre∧Jx pre W'))
section
variable {α:Type} {P:Program} {g:Operand} {ps:Array Tmp} {assign body:Code} {Q:Exit→Act→World→Prop} {a:Act} {w:World}
theorem zi3 {gf:Nat} {lb:Array Value} (hg:a.eval g = .func (.func gf) #[] lb) (eg : ∀ args w,(callFunc gf args).run P w = .ok (.enter gf args) w)
 {encs:α→Array Value} {fp ks:List Nat} {S Sp:List α→Prop} {N:Nat} (hseq:zhB P gf lb encs fp ks S Sp N w) (hks : ∀ k∈ks,k≠w.heap.size+1) (hps : ∀ x,(encs x).size=ps.size)
 (I:List α→World→Prop) (Ix:Code→List α→World→Prop) (Mid:List α→α→Act→World→Prop)
 (hI:OwnFrom w.heap.size I) (hIx : ∀ c,OwnFrom w.heap.size (Ix c)) (hMid : ∀ pre x a',OwnFrom w.heap.size (fun (_:Unit) W=>Mid pre x a' W))
 (hIw : ∀ s A B,I s A→Own2 fp A B→I s B) (hIxw : ∀ c s A B,Ix c s A→Own2 fp A B→Ix c s B) (h0:I [] w)
 (hassign : ∀ (l:Nat) (pre:List α) (x:α) (W:World) (K:Act→World→Prop),I pre W→w.heap.size≤W.heap.size→(∀ k∈fp,k<W.heap.size)→(∀ a' W',KeepsFrom w.heap.size W W'→Keep ks W W'→Mid pre x a' W'→K a' W') →
  assign.wpIn (Fence.wide.inRound l) 7 P (Exit.then K (fun _ _ _=>False)) { tmps:=(ps.zip (encs x)).foldl (fun t (p,v)=>t.setIfInBounds p v) a.tmps,defers:=[] } W)
 (hbody : ∀ (l:Nat) (pre:List α) (x:α) (a':Act) (W:World),w.heap.size≤W.heap.size→Mid pre x a' W→pre.length<N →
  body.wpIn (Fence.wide.inRound l) 7 P (ownPostG w.heap.size (Keep ks) I Ix (pre++[x]) W) a' W)
 (hdone : ∀ (D:Nat) (xs:List α) (W:World),w.heap.size≤D→S xs→I xs W→W.heap[D]? =some (.deferred (some []))→Q .normal { a with defers := { target := .collected D,args := #[] }::a.defers } W)
 (hstop : ∀ (D:Nat) (c:Code) (pre:List α) (W:World),w.heap.size≤D→Sp pre→Ix c pre W→W.heap[D]? =some (.deferred (some []))→c.wpIn Fence.wide 9 P Q { a with defers := { target := .collected D,args := #[] }::a.defers } W) :
 (Code.rangeFunc g ps assign body).wpIn Fence.wide 9 P Q a w:=by
 refine wpIn_rangeFunc fun fn hfn=>?_
 let rc:LoopState→Option Code→Loop:=fun s p => { state:=s,pending:=p,fn,tmps:=a.tmps,params:=ps,assign,body,defers:=w.heap.size }
 let wD:=w.alloc (.deferred (some []))
 let wL:=wD.alloc (.loop (rc .ready none))
 have zD:wD.heap.size=w.heap.size+1:=by simp [wD]
 have recL:wL.heap[w.heap.size+1]? =some (.loop (rc .ready none)):=by
  have:=World.alloc_heap_new wD (.loop (rc .ready none)); rwa [zD] at this
 have defL:wL.heap[w.heap.size]? =some (.deferred (some [])):=(Below.heap_alloc wD _ _ (by omega)).trans (World.alloc_heap_new w _)
 have iL:I [] wL:=hI.alloc _ (hI.alloc _ h0)
 have uL:Upd [] w wL:=((Upd.refl [] w).alloc _).alloc _
 refine ⟨w.heap.size+1,[{ target := .collected w.heap.size,args := #[] }],wL,{ target := .fn (.func gf) lb,args := #[.func (.yield (w.heap.size+1)) #[] #[]] },wL,gf,#[.func (.yield (w.heap.size+1)) #[] #[]]++lb,wL,run_enterLoop_outer _ _ _ _ _,by simp only [resolve,hg]; simp [go_sem],fun _ _=>trivial,by simp [invoke,go_sem,eg],(fun _=>by omega),?_⟩
 have kept : ∀ {A B:World} {k:Nat} {o:Obj},Own2 fp A B→A.heap[k]? =some o→o.isCells=false→B.heap[k]? =some o:=fun hAB h hc=>hAB.2.same _ _ h hc
 refine (hseq (w.heap.size+1)
  (fun s W=>I s W∧W.heap[w.heap.size+1]? =some (.loop (rc .ready none))∧W.heap[w.heap.size]? =some (.deferred (some [])))
  (fun s W => ∃ c,Ix c s W∧W.heap[w.heap.size+1]? =some (.loop (rc .done (some c)))∧W.heap[w.heap.size]? =some (.deferred (some [])))
  wL uL (by simp [wL,zD]) (fun s A B h hAB=>⟨hIw s A B h.1 hAB,kept hAB h.2.1 rfl,kept hAB h.2.2 rfl⟩)
  (fun s A B h hAB=>by obtain ⟨c,h1,h2,h3⟩:=h; exact ⟨c,hIxw c s A B h1 hAB,kept hAB h2 rfl,kept hAB h3 rfl⟩) ?round ⟨iL,recL,defL⟩).mono ?behind
 case round =>
  rintro pre x W ⟨hi,hr,hd⟩ hlen hfp
  have hsz:w.heap.size≤W.heap.size:=by have:=(Array.getElem?_eq_some_iff.1 hr).1; omega
  refine ⟨fn,_,assign,body,run_yield (r:=rc .ready none) hr (hps x),roundIn_of_wpIn hfn (hassign _ pre x W _ hi hsz hfp fun a' Wa hkf hkp hmid=>?_)⟩
  have hr1:=hkf.same _ _ (by omega) hr rfl
  have hd1:=hkf.same _ _ (Nat.le_refl _) hd rfl
  have hl1:w.heap.size+1<Wa.heap.size:=(Array.getElem?_eq_some_iff.1 hr1).1
  refine ⟨_,run_beginRound hr1 rfl,?_⟩
  let Wb:=Wa.putObj (w.heap.size+1) (.loop (rc .busy none))
  have hr2:Wb.heap[w.heap.size+1]? =some (.loop (rc .busy none)):=World.putObj_heap_same hl1
  have hd2:Wb.heap[w.heap.size]? =some (.deferred (some [])):=(World.putObj_heap_other (by omega)).trans hd1
  have hkb:Keep ks W Wb:=hkp.trans (Keep.putObj _ fun k hk=>hks k hk)
  have hmb:Mid pre x a' Wb:=(hMid pre x a').putObj (s:=()) _ hmid (by omega) hr1 rfl
  refine wpIn_mono (hbody _ pre x a' Wb (by show w.heap.size≤(Wa.putObj _ _).heap.size; simp; omega) hmb hlen) fun e a3 W3 hp=>?_
  have fin : ∀ (j:Option Code),KeepsFrom w.heap.size Wb W3 →
   (Instr.endRound (w.heap.size+1) j).run P W3 = .ok (.bool j.isNone) (W3.putObj (w.heap.size+1) (.loop (rc (if j.isNone then .ready else .done) j)))∧W3.heap[w.heap.size+1]? =some (.loop (rc .busy none)) ∧
   (W3.putObj (w.heap.size+1) (.loop (rc (if j.isNone then .ready else .done) j))).heap[w.heap.size+1]? =some (.loop (rc (if j.isNone then .ready else .done) j)) ∧
   (W3.putObj (w.heap.size+1) (.loop (rc (if j.isNone then .ready else .done) j))).heap[w.heap.size]? =some (.deferred (some [])):=fun j hk=>by
   have hr3:=hk.same _ _ (by omega) hr2 rfl
   exact ⟨run_endRound j hr3,hr3,World.putObj_heap_same (Array.getElem?_eq_some_iff.1 hr3).1,(World.putObj_heap_other (by omega)).trans (hk.same _ _ (Nat.le_refl _) hd2 rfl)⟩
  have out : ∀ (c:Code),KeepsFrom w.heap.size Wb W3∧Ix c (pre++[x]) W3 → ∃ v W4,(Instr.endRound (w.heap.size+1) (some c)).run P W3 = .ok v W4 ∧
   ((Ending.returned v = .returned (.bool true)∧(I (pre++[x]) W4∧W4.heap[w.heap.size+1]? =some (.loop (rc .ready none))∧W4.heap[w.heap.size]? =some (.deferred (some [])))∧Keep ks W W4) ∨
    (Ending.returned v = .returned (.bool false) ∧ ∃ c,Ix c (pre++[x]) W4∧W4.heap[w.heap.size+1]? =some (.loop (rc .done (some c)))∧W4.heap[w.heap.size]? =some (.deferred (some [])))):=fun c h=>by
   obtain ⟨hrun,hr3,hr4,hd4⟩:=fin (some c) h.1
   exact ⟨_,_,hrun,.inr ⟨rfl,c,(hIx c).putObj _ h.2 (by omega) hr3 rfl,hr4,hd4⟩⟩
  cases e with
  | normal =>
    obtain ⟨hrun,hr3,hr4,hd4⟩:=fin none hp.1
    exact ⟨_,_,hrun,.inl ⟨rfl,⟨hI.putObj _ hp.2.2 (by omega) hr3 rfl,hr4,hd4⟩,(hkb.trans hp.2.1).trans (Keep.putObj _ fun k hk=>hks k hk)⟩⟩
  | ret=>exact out .ret hp
  | exit id=>exact out (.exit id) hp
  | goto t=>exact out (.goto t) hp
  | panic ch=>exact hp.elim
  | outgrown=>exact hp.elim
 case behind =>
  rintro e W2 ⟨⟨v,rfl⟩,(⟨xs,hS,hi,hr,hd⟩ | ⟨pre,hSp,c,hi,hr,hd⟩)⟩
  · exact ⟨none,_,run_endLoop (r:=rc .ready none) hr (by simp [rc]),hdone _ xs _ (Nat.le_refl _) hS (hI.putObj _ hi (by omega) hr rfl) ((World.putObj_heap_other (by omega)).trans hd)⟩
  · exact ⟨some c,_,run_endLoop (r:=rc .done (some c)) hr (by simp [rc]),hstop _ c pre _ (Nat.le_refl _) hSp ((hIx c).putObj _ hi (by omega) hr rfl) ((World.putObj_heap_other (by omega)).trans hd)⟩
theorem ziH {gf:Nat} {lb:Array Value} (hg:a.eval g = .func (.func gf) #[] lb) (eg : ∀ args w,(callFunc gf args).run P w = .ok (.enter gf args) w)
 {encs:α→Array Value} {fp ks:List Nat} {S Sp:List α→Prop} {N:Nat} (hseq:zhB P gf lb encs fp ks S Sp N w) (hks : ∀ k∈ks,k≠w.heap.size+1) (hps : ∀ x,(encs x).size=ps.size)
 (I:List α→World→Prop) (Ix:Code→List α→World→Prop) (act:α→Act)
 (hI:OwnFrom w.heap.size I) (hIx : ∀ c,OwnFrom w.heap.size (Ix c)) (hIw : ∀ s A B,I s A→Own2 fp A B→I s B) (hIxw : ∀ c s A B,Ix c s A→Own2 fp A B→Ix c s B) (h0:I [] w)
 (hassign : ∀ (l:Nat) (x:α) (W:World) (K:Act→World→Prop),K (act x) W →
  assign.wpIn (Fence.wide.inRound l) 7 P (Exit.then K (fun _ _ _=>False)) { tmps:=(ps.zip (encs x)).foldl (fun t (p,v)=>t.setIfInBounds p v) a.tmps,defers:=[] } W)
 (hbody : ∀ (l:Nat) (pre:List α) (x:α) (W:World),w.heap.size≤W.heap.size→(∀ k∈fp,k<W.heap.size)→I pre W→pre.length<N →
  body.wpIn (Fence.wide.inRound l) 7 P (ownPostG w.heap.size (Keep ks) I Ix (pre++[x]) W) (act x) W)
 (hdone : ∀ (D:Nat) (xs:List α) (W:World),w.heap.size≤D→S xs→I xs W→W.heap[D]? =some (.deferred (some []))→Q .normal { a with defers := { target := .collected D,args := #[] }::a.defers } W)
 (hstop : ∀ (D:Nat) (c:Code) (pre:List α) (W:World),w.heap.size≤D→Sp pre→Ix c pre W→W.heap[D]? =some (.deferred (some []))→c.wpIn Fence.wide 9 P Q { a with defers := { target := .collected D,args := #[] }::a.defers } W) :
 (Code.rangeFunc g ps assign body).wpIn Fence.wide 9 P Q a w :=
 zi3 hg eg hseq hks hps I Ix (fun pre x a' W=>(I pre W ∧ ∀ k∈fp,k<W.heap.size)∧a'=act x) hI hIx
  (fun pre x a' _ A B row hs hg hr=>⟨⟨hI pre A B row hs.1.1 hg hr,fun k hk=>Nat.lt_of_lt_of_le (hs.1.2 k hk) hg.size⟩,hs.2⟩) hIw hIxw h0
  (fun l pre x W K hi hsz hfp hK=>hassign l x W K (hK _ _ (KeepsFrom.refl _ _) (Keep.refl _ _) ⟨⟨hi,hfp⟩,rfl⟩))
  (fun l pre x a' W hsz hm hlt=>by obtain ⟨⟨h1,h2⟩,rfl⟩:=hm; exact hbody l pre x W hsz h2 h1 hlt) hdone hstop
end
end Go.Proofs.YtfkcdnaghndgfaaGreatDoor
namespace Go.Proofs.YtfkcdnaghndgfaaGreatDoor
open Go.RowKit Go.Shelf
attribute [local go_sem] Oper.semAt_some
def zM (l:List Nat):Nat:=(l.takeWhile (fun c=>decide (c≠47))).length
theorem zey (l:List Nat):zM l≤l.length:=(List.takeWhile_prefix _).length_le
theorem vR (c:Nat) (r:List Nat):zM (c::r)=if c=47 then 0 else zM r+1:=by
 unfold zM
 rw [List.takeWhile_cons]
 by_cases h:c=47<;>simp [h]
theorem vh : ∀ (l:List Nat),zM l<l.length→zi l=l.take (zM l)::zi (l.drop (zM l+1))
 | [],h=>by simp at h
 | c::r,h=>by
   rw [vR] at h ⊢
   by_cases e:c=47
   · subst e; simp [zi]
   · rw [if_neg e] at h ⊢
     have ih:=vh r (by rw [List.length_cons] at h; omega)
     have e2:zi (c::r)=(c::(zi r).headD [])::(zi r).tail:=by rw [zi,if_neg e]
     rw [e2,ih]
     simp
theorem vL : ∀ (l:List Nat),¬ zM l<l.length→zi l=[l]
 | [],_=>rfl
 | c::r,h=>by
   rw [vR] at h
   by_cases e:c=47
   · rw [if_pos e] at h; simp at h
   · rw [if_neg e] at h
     have ih:=vL r (by rw [List.length_cons] at h; omega)
     have e2:zi (c::r)=(c::(zi r).headD [])::(zi r).tail:=by rw [zi,if_neg e]
     rw [e2,ih]
     simp
theorem Ky (l:List Nat):(zi l).headD []=l.take (zM l):=by
 by_cases h:zM l<l.length
 · rw [vh l h]; rfl
 · rw [vL l h,List.headD_cons,List.take_of_length_le (by omega)]
theorem qd (L:List UInt8):Lib.indexByte L 47=if zM (L.map UInt8.toNat)<L.length then (zM (L.map UInt8.toNat):Int) else -1:=by
 induction L with
 | nil=>rfl
 | cons b l ih =>
   have hb:(b==47)=decide (b.toNat=47):=by
    rw [Bool.eq_iff_iff]; simp [← UInt8.toNat_inj]
   rw [List.map_cons,vR,Lib.indexByte,hb,ih]
   by_cases e:b.toNat=47
   · simp [e]
   · rw [if_neg (by simp [e]),if_neg e]
     by_cases h:zM (l.map UInt8.toNat)<l.length
     · have h1:(((zM (l.map UInt8.toNat):Nat):Int) == -1)=false:=by rw [beq_eq_false_iff_ne]; omega
       rw [if_pos h,h1,if_pos (show zM (l.map UInt8.toNat)+1<(b::l).length by rw [List.length_cons]; omega)]; simp
     · rw [if_neg h,if_neg (show ¬ zM (l.map UInt8.toNat)+1<(b::l).length by rw [List.length_cons]; omega)]; rfl
set_option maxRecDepth 100000 in
theorem ZI (s:ByteArray) (w:World):Calls Tryz.prog 225 #[.string s,.int .u8 47] w fun e w'=>e = .returned (.int .i64 (Lib.indexByte s.data.toList 47))∧w=w':=by
 go_enter Tryz.func225,Tryz.ntmps225
 go_wp2
 rw [run_callFunc_extern Tryz.func243 (by kernel_rfl) (by kernel_rfl) (by kernel_rfl) (e:=Extern.BytealgIndexByte.indexByte) (by kernel_rfl),Lib.run_indexByteString]
 simp only [Result.andThen]
 rw [Oper.upon_value]
 go_wp2
 go_ret
 exact ⟨rfl,rfl⟩
set_option maxRecDepth 100000 in
theorem vW (s:ByteArray) (w:World):Calls Tryz.prog 200 #[.string s,.string { data := #[47] }] w fun e w'=>e = .returned (.int .i64 (Lib.indexByte s.data.toList 47))∧w=w':=by
 cases hq:([47]==s.toList) with
 | true =>
   have e1:s.toList=[47]:=(beq_iff_eq.1 hq).symm
   have HZ:=Lib.hid (show Lib.indexByte s.data.toList 47=0 from by rw [ByteArray.toList_eq] at e1; rw [e1]; rfl)
   clear e1
   go_enter Tryz.func200,Tryz.ntmps200
   go_wp2
   go_ret
   exact ⟨by rw [HZ.out]; rfl,rfl⟩
 | false =>
   go_enter Tryz.func200,Tryz.ntmps200
   go_wp2_with (go_at_call 225; refine (ZI _ _).mono ?_; rintro e w' ⟨rfl,rfl⟩)
   go_ret
   exact ⟨rfl,rfl⟩
theorem Ze (s:ByteArray) (w:World):Calls Tryz.prog 203 #[.string s,.string { data := #[47] }] w fun e w'=>e = .returned (.int .i64 (Lib.indexByte s.data.toList 47))∧w=w':=by
 go_enter Tryz.func203,Tryz.ntmps203
 go_wp2_with (go_at_call 200; refine (vW _ _).mono ?_; rintro e w' ⟨rfl,rfl⟩)
 go_ret
 exact ⟨rfl,rfl⟩
theorem zci (s:ByteArray) (w:World) (h:zM (za s)<s.size):Calls Tryz.prog 200 #[.string s,.string { data := #[47] }] w fun e w'=>e = .returned (.int .i64 (zM (za s):Nat))∧w=w' :=
 (vW s w).mono fun e w' ⟨h1,h2⟩=>⟨by rw [h1,qd]; unfold za at h ⊢; rw [if_pos (by exact h)],h2⟩
theorem zet (s:ByteArray) (w:World) (h : ¬ zM (za s)<s.size):Calls Tryz.prog 200 #[.string s,.string { data := #[47] }] w fun e w'=>e = .returned (.int .i64 (-1))∧w=w' :=
 (vW s w).mono fun e w' ⟨h1,h2⟩=>⟨by rw [h1,qd]; unfold za at h; rw [if_neg (by exact h)],h2⟩
theorem zdJ (s:ByteArray) (w:World) (h:zM (za s)<s.size):Calls Tryz.prog 203 #[.string s,.string { data := #[47] }] w fun e w'=>e = .returned (.int .i64 (zM (za s):Nat))∧w=w' :=
 (Ze s w).mono fun e w' ⟨h1,h2⟩=>⟨by rw [h1,qd]; unfold za at h ⊢; rw [if_pos (by exact h)],h2⟩
theorem zgT (s:ByteArray) (w:World) (h : ¬ zM (za s)<s.size):Calls Tryz.prog 203 #[.string s,.string { data := #[47] }] w fun e w'=>e = .returned (.int .i64 (-1))∧w=w' :=
 (Ze s w).mono fun e w' ⟨h1,h2⟩=>⟨by rw [h1,qd]; unfold za at h; rw [if_neg (by exact h)],h2⟩
theorem zK (s:ByteArray) (a b:Nat):za (s.extract a b)=((za s).drop a).take (b-a):=by
 simp [za,ByteArray.data_extract,List.map_take,List.map_drop]
theorem jN (s:ByteArray) (n:Nat):s.extract 0 n=zd ((za s).take n):=by
 rw [← zz (s.extract 0 n),zK]; simp
set_option maxRecDepth 100000 in
theorem zfB (s:ByteArray) (w:World) (hs:s.size≤9223372036854775807):Calls Tryz.prog 168 #[.string s,.string { data := #[47] }] w fun e w'=>(∃ r b,e = .returned (.tuple #[.string (zd ((zi (za s)).headD [])),.string r,.bool b]))∧Upd [] w w':=by
 have HT:=Lib.hid (Ky (za s))
 have hl:=zc s
 have h0:=zey (za s)
 by_cases h:zM (za s)<s.size
 · have HY:=Lib.hid (fun w=>zci s w h)
   have HE:=Lib.hid (jN s (zM (za s)))
   generalize zM (za s)=f at *
   clear hl h0
   go_enter Tryz.func168,Tryz.ntmps168
   go_wp2_with (go_at_call 200; refine (HY.out _).mono ?_; rintro e w' ⟨rfl,rfl⟩)
   go_quiet (fail)
   go_wp2
   go_ret3
   exact ⟨⟨s.extract (f+1) s.size,true,by rw [HT.out,← HE.out]; rfl⟩,(Upd.refl _ _).drewN _⟩
 · have HY:=Lib.hid (fun w=>zet s w h)
   have HE:=Lib.hid (jN s (zM (za s)))
   have e1:(za s).take (zM (za s))=za s:=List.take_of_length_le (by omega)
   rw [e1] at HT
   clear hl h0 HE e1 h
   go_enter Tryz.func168,Tryz.ntmps168
   go_wp2_with (go_at_call 200; refine (HY.out _).mono ?_; rintro e w' ⟨rfl,rfl⟩)
   go_ret3
   exact ⟨⟨{ data := #[] },false,by rw [HT.out,zz]; rfl⟩,Upd.refl _ _⟩
theorem zhT (s:ByteArray) (w:World) (hs:s.size≤9223372036854775807):Calls Tryz.prog 132 #[.string s,.string { data := #[47] }] w fun e w'=>(∃ r b,e = .returned (.tuple #[.string (zd ((zi (za s)).headD [])),.string r,.bool b]))∧Upd [] w w':=by
 have HC:=Lib.hid (fun w=>zfB s w hs)
 generalize (zi (za s)).headD []=hd at *
 go_enter Tryz.func132,Tryz.ntmps132
 go_wp2_with (go_at_call 168; refine (HC.out _).mono ?_; rintro e w' ⟨⟨r,b,rfl⟩,hU⟩)
 go_ret3
 exact ⟨⟨r,b,rfl⟩,hU⟩
end Go.Proofs.YtfkcdnaghndgfaaGreatDoor
