/- A loop over an iterator that writes cells of its own between two rounds, where it is known what may come next: the contract, and the law of the loop (as SeqW). -/
import Derived.Test.YtigjingielnaoaaGreatDoorQAB
import Derived.BigRegion
import Derived.BigRegionIn
import Derived.Test.YtigjingielnaoaaGreatDoorQAG
set_option linter.unusedVariables false
set_option linter.unusedSimpArgs false
set_option linter.unusedSectionVars false
namespace Go.Proofs.YtigjingielnaoaaGreatDoor
open Go.RowKit
def SeqN {α:Type} (P:Program) (g:Nat) (lb:Array Value) (encs:α→Array Value) (fp ks:List Nat) (S Sp:List α→Prop) (Nx:List α→α→Prop) (w:World):Prop :=
 ∀ (l:Nat) (J Jx:List α→World→Prop) (W:World),Upd [] w W→W.heap.size=w.heap.size+2→(∀ s A B,J s A→Own2 fp A B→J s B)→(∀ s A B,Jx s A→Own2 fp A B→Jx s B) →
  (∀ pre x W1,J pre W1→Nx pre x→(∀ k∈fp,k<W1.heap.size)→YieldAt Fence.wide 7 P l (encs x) W1 fun e W'=>(e = .returned (.bool true)∧J (pre++[x]) W'∧Keep ks W1 W')∨(e = .returned (.bool false)∧Jx (pre++[x]) W'))→J [] W →
  CallsIn Fence.wide 8 P g (#[.func (.yield l) #[] #[]]++lb) W fun e W'=>(∃ v,e = .returned v)∧((∃ xs,S xs∧J xs W')∨(∃ pre,Sp pre∧Jx pre W'))
section
variable {α:Type} {P:Program} {g:Operand} {ps:Array Tmp} {assign body:Code} {Q:Exit→Act→World→Prop} {a:Act} {w:World}
theorem zeS {gf:Nat} {lb:Array Value} (hg:a.eval g = .func (.func gf) #[] lb) (eg : ∀ args w,(callFunc gf args).run P w = .ok (.enter gf args) w)
 {encs:α→Array Value} {fp ks:List Nat} {S Sp:List α→Prop} {Nx:List α→α→Prop} (hseq:SeqN P gf lb encs fp ks S Sp Nx w) (hks : ∀ k∈ks,k≠w.heap.size+1) (hps : ∀ x,(encs x).size=ps.size)
 (I:List α→World→Prop) (Ix:Code→List α→World→Prop) (Mid:List α→α→Act→World→Prop)
 (hI:OwnFrom w.heap.size I) (hIx : ∀ c,OwnFrom w.heap.size (Ix c)) (hMid : ∀ pre x a',OwnFrom w.heap.size (fun (_:Unit) W=>Mid pre x a' W))
 (hIw : ∀ s A B,I s A→Own2 fp A B→I s B) (hIxw : ∀ c s A B,Ix c s A→Own2 fp A B→Ix c s B) (h0:I [] w)
 (hassign : ∀ (l:Nat) (pre:List α) (x:α) (W:World) (K:Act→World→Prop),I pre W→w.heap.size≤W.heap.size→(∀ k∈fp,k<W.heap.size)→(∀ a' W',KeepsFrom w.heap.size W W'→Keep ks W W'→Mid pre x a' W'→K a' W') →
  assign.wpIn (Fence.wide.inRound l) 7 P (Exit.then K (fun _ _ _=>False)) { tmps:=(ps.zip (encs x)).foldl (fun t (p,v)=>t.setIfInBounds p v) a.tmps,defers:=[] } W)
 (hbody : ∀ (l:Nat) (pre:List α) (x:α) (a':Act) (W:World),w.heap.size≤W.heap.size→Mid pre x a' W→Nx pre x →
  body.wpIn (Fence.wide.inRound l) 7 P (ownPostG w.heap.size (Keep ks) I Ix (pre++[x]) W) a' W)
 (hdone : ∀ (D:Nat) (xs:List α) (W:World),w.heap.size≤D→S xs→I xs W→W.heap[D]? =some (.deferred (some []))→Q .normal { a with defers := { target := .collected D,args := #[] }::a.defers } W)
 (hstop : ∀ (D:Nat) (c:Code) (pre:List α) (W:World),w.heap.size≤D→Sp pre→Ix c pre W→W.heap[D]? =some (.deferred (some []))→c.wpIn Fence.wide 9 P Q { a with defers := { target := .collected D,args := #[] }::a.defers } W) :
 (Code.rangeFunc g ps assign body).wpIn Fence.wide 9 P Q a w:=by
 refine wpIn_rangeFunc fun fn hfn=>?_
 let rc:LoopState→Option Code→Loop:=fun s p => { state:=s,pending:=p,fn,tmps:=a.tmps,params:=ps,assign,body,defers:=w.heap.size }
 let wD:=w.alloc (.deferred (some []))
 let wL:=wD.alloc (.loop (rc .ready none))
 have zD:wD.heap.size=w.heap.size+1:=by simp [wD]
 have recL:wL.heap[w.heap.size+1]? =some (.loop (rc .ready none)):=by
  have:=World.alloc_heap_new wD (.loop (rc .ready none)); rwa [zD] at this
 have defL:wL.heap[w.heap.size]? =some (.deferred (some [])):=(Below.heap_alloc wD _ _ (by omega)).trans (World.alloc_heap_new w _)
 have iL:I [] wL:=hI.alloc _ (hI.alloc _ h0)
 have uL:Upd [] w wL:=((Upd.refl [] w).alloc _).alloc _
 refine ⟨w.heap.size+1,[{ target := .collected w.heap.size,args := #[] }],wL,{ target := .fn (.func gf) lb,args := #[.func (.yield (w.heap.size+1)) #[] #[]] },wL,gf,#[.func (.yield (w.heap.size+1)) #[] #[]]++lb,wL,run_enterLoop_outer _ _ _ _ _,by simp only [resolve,hg]; simp [go_sem],fun _ _=>trivial,by simp [invoke,go_sem,eg],(fun _=>by omega),?_⟩
 have kept : ∀ {A B:World} {k:Nat} {o:Obj},Own2 fp A B→A.heap[k]? =some o→o.isCells=false→B.heap[k]? =some o:=fun hAB h hc=>hAB.2.same _ _ h hc
 refine (hseq (w.heap.size+1)
  (fun s W=>I s W∧W.heap[w.heap.size+1]? =some (.loop (rc .ready none))∧W.heap[w.heap.size]? =some (.deferred (some [])))
  (fun s W => ∃ c,Ix c s W∧W.heap[w.heap.size+1]? =some (.loop (rc .done (some c)))∧W.heap[w.heap.size]? =some (.deferred (some [])))
  wL uL (by simp [wL,zD]) (fun s A B h hAB=>⟨hIw s A B h.1 hAB,kept hAB h.2.1 rfl,kept hAB h.2.2 rfl⟩)
  (fun s A B h hAB=>by obtain ⟨c,h1,h2,h3⟩:=h; exact ⟨c,hIxw c s A B h1 hAB,kept hAB h2 rfl,kept hAB h3 rfl⟩) ?round ⟨iL,recL,defL⟩).mono ?behind
 case round =>
  rintro pre x W ⟨hi,hr,hd⟩ hlen hfp
  have hsz:w.heap.size≤W.heap.size:=by have:=(Array.getElem?_eq_some_iff.1 hr).1; omega
  refine ⟨fn,_,assign,body,run_yield (r:=rc .ready none) hr (hps x),roundIn_of_wpIn hfn (hassign _ pre x W _ hi hsz hfp fun a' Wa hkf hkp hmid=>?_)⟩
  have hr1:=hkf.same _ _ (by omega) hr rfl
  have hd1:=hkf.same _ _ (Nat.le_refl _) hd rfl
  have hl1:w.heap.size+1<Wa.heap.size:=(Array.getElem?_eq_some_iff.1 hr1).1
  refine ⟨_,run_beginRound hr1 rfl,?_⟩
  let Wb:=Wa.putObj (w.heap.size+1) (.loop (rc .busy none))
  have hr2:Wb.heap[w.heap.size+1]? =some (.loop (rc .busy none)):=World.putObj_heap_same hl1
  have hd2:Wb.heap[w.heap.size]? =some (.deferred (some [])):=(World.putObj_heap_other (by omega)).trans hd1
  have hkb:Keep ks W Wb:=hkp.trans (Keep.putObj _ fun k hk=>hks k hk)
  have hmb:Mid pre x a' Wb:=(hMid pre x a').putObj (s:=()) _ hmid (by omega) hr1 rfl
  refine wpIn_mono (hbody _ pre x a' Wb (by show w.heap.size≤(Wa.putObj _ _).heap.size; simp; omega) hmb hlen) fun e a3 W3 hp=>?_
  have fin : ∀ (j:Option Code),KeepsFrom w.heap.size Wb W3 →
   (Instr.endRound (w.heap.size+1) j).run P W3 = .ok (.bool j.isNone) (W3.putObj (w.heap.size+1) (.loop (rc (if j.isNone then .ready else .done) j)))∧W3.heap[w.heap.size+1]? =some (.loop (rc .busy none)) ∧
   (W3.putObj (w.heap.size+1) (.loop (rc (if j.isNone then .ready else .done) j))).heap[w.heap.size+1]? =some (.loop (rc (if j.isNone then .ready else .done) j)) ∧
   (W3.putObj (w.heap.size+1) (.loop (rc (if j.isNone then .ready else .done) j))).heap[w.heap.size]? =some (.deferred (some [])):=fun j hk=>by
   have hr3:=hk.same _ _ (by omega) hr2 rfl
   exact ⟨run_endRound j hr3,hr3,World.putObj_heap_same (Array.getElem?_eq_some_iff.1 hr3).1,(World.putObj_heap_other (by omega)).trans (hk.same _ _ (Nat.le_refl _) hd2 rfl)⟩
  have out : ∀ (c:Code),KeepsFrom w.heap.size Wb W3∧Ix c (pre++[x]) W3 → ∃ v W4,(Instr.endRound (w.heap.size+1) (some c)).run P W3 = .ok v W4 ∧
   ((Ending.returned v = .returned (.bool true)∧(I (pre++[x]) W4∧W4.heap[w.heap.size+1]? =some (.loop (rc .ready none))∧W4.heap[w.heap.size]? =some (.deferred (some [])))∧Keep ks W W4) ∨
    (Ending.returned v = .returned (.bool false) ∧ ∃ c,Ix c (pre++[x]) W4∧W4.heap[w.heap.size+1]? =some (.loop (rc .done (some c)))∧W4.heap[w.heap.size]? =some (.deferred (some [])))):=fun c h=>by
   obtain ⟨hrun,hr3,hr4,hd4⟩:=fin (some c) h.1
   exact ⟨_,_,hrun,.inr ⟨rfl,c,(hIx c).putObj _ h.2 (by omega) hr3 rfl,hr4,hd4⟩⟩
  cases e with
  | normal =>
    obtain ⟨hrun,hr3,hr4,hd4⟩:=fin none hp.1
    exact ⟨_,_,hrun,.inl ⟨rfl,⟨hI.putObj _ hp.2.2 (by omega) hr3 rfl,hr4,hd4⟩,(hkb.trans hp.2.1).trans (Keep.putObj _ fun k hk=>hks k hk)⟩⟩
  | ret=>exact out .ret hp
  | exit id=>exact out (.exit id) hp
  | goto t=>exact out (.goto t) hp
  | panic ch=>exact hp.elim
  | outgrown=>exact hp.elim
 case behind =>
  rintro e W2 ⟨⟨v,rfl⟩,(⟨xs,hS,hi,hr,hd⟩ | ⟨pre,hSp,c,hi,hr,hd⟩)⟩
  · exact ⟨none,_,run_endLoop (r:=rc .ready none) hr (by simp [rc]),hdone _ xs _ (Nat.le_refl _) hS (hI.putObj _ hi (by omega) hr rfl) ((World.putObj_heap_other (by omega)).trans hd)⟩
  · exact ⟨some c,_,run_endLoop (r:=rc .done (some c)) hr (by simp [rc]),hstop _ c pre _ (Nat.le_refl _) hSp ((hIx c).putObj _ hi (by omega) hr rfl) ((World.putObj_heap_other (by omega)).trans hd)⟩
theorem zes {gf:Nat} {lb:Array Value} (hg:a.eval g = .func (.func gf) #[] lb) (eg : ∀ args w,(callFunc gf args).run P w = .ok (.enter gf args) w)
 {encs:α→Array Value} {fp ks:List Nat} {S Sp:List α→Prop} {Nx:List α→α→Prop} (hseq:SeqN P gf lb encs fp ks S Sp Nx w) (hks : ∀ k∈ks,k≠w.heap.size+1) (hps : ∀ x,(encs x).size=ps.size)
 (I:List α→World→Prop) (Ix:Code→List α→World→Prop) (act:α→Act)
 (hI:OwnFrom w.heap.size I) (hIx : ∀ c,OwnFrom w.heap.size (Ix c)) (hIw : ∀ s A B,I s A→Own2 fp A B→I s B) (hIxw : ∀ c s A B,Ix c s A→Own2 fp A B→Ix c s B) (h0:I [] w)
 (hassign : ∀ (l:Nat) (x:α) (W:World) (K:Act→World→Prop),K (act x) W →
  assign.wpIn (Fence.wide.inRound l) 7 P (Exit.then K (fun _ _ _=>False)) { tmps:=(ps.zip (encs x)).foldl (fun t (p,v)=>t.setIfInBounds p v) a.tmps,defers:=[] } W)
 (hbody : ∀ (l:Nat) (pre:List α) (x:α) (W:World),w.heap.size≤W.heap.size→(∀ k∈fp,k<W.heap.size)→I pre W→Nx pre x →
  body.wpIn (Fence.wide.inRound l) 7 P (ownPostG w.heap.size (Keep ks) I Ix (pre++[x]) W) (act x) W)
 (hdone : ∀ (D:Nat) (xs:List α) (W:World),w.heap.size≤D→S xs→I xs W→W.heap[D]? =some (.deferred (some []))→Q .normal { a with defers := { target := .collected D,args := #[] }::a.defers } W)
 (hstop : ∀ (D:Nat) (c:Code) (pre:List α) (W:World),w.heap.size≤D→Sp pre→Ix c pre W→W.heap[D]? =some (.deferred (some []))→c.wpIn Fence.wide 9 P Q { a with defers := { target := .collected D,args := #[] }::a.defers } W) :
 (Code.rangeFunc g ps assign body).wpIn Fence.wide 9 P Q a w :=
 zeS hg eg hseq hks hps I Ix (fun pre x a' W=>(I pre W ∧ ∀ k∈fp,k<W.heap.size)∧a'=act x) hI hIx
  (fun pre x a' _ A B row hs hg hr=>⟨⟨hI pre A B row hs.1.1 hg hr,fun k hk=>Nat.lt_of_lt_of_le (hs.1.2 k hk) hg.size⟩,hs.2⟩) hIw hIxw h0
  (fun l pre x W K hi hsz hfp hK=>hassign l x W K (hK _ _ (KeepsFrom.refl _ _) (Keep.refl _ _) ⟨⟨hi,hfp⟩,rfl⟩))
  (fun l pre x a' W hsz hm hlt=>by obtain ⟨⟨h1,h2⟩,rfl⟩:=hm; exact hbody l pre x W hsz h2 h1 hlt) hdone hstop
end
theorem SeqN.wide {α:Type} {P:Program} {g:Nat} {lb:Array Value} {encs:α→Array Value} {fp ks:List Nat} {S Sp:List α→Prop} {Nx:List α→α→Prop} {N:Nat} {w:World} (h:SeqN P g lb encs fp ks S Sp Nx w) (hN : ∀ pre x,Nx pre x→pre.length<N):zcw P g lb encs fp ks S Sp N w :=
 fun l J Jx W hU hz hJ hJx hY h0=>h l J Jx W hU hz hJ hJx (fun pre x W1 h1 h2 h3=>hY pre x W1 h1 (hN pre x h2) h3) h0
end Go.Proofs.YtigjingielnaoaaGreatDoor
namespace Go.Proofs.YtigjingielnaoaaGreatDoor
open Go.RowKit Go.Shelf
attribute [local go_sem] Oper.semAt_some
def plN (s:ByteArray):Nat→List Nat
 | 0=>[]
 | i+1=>if 65557<s.size-i then [] else i::plN s i
def plS (s:ByteArray):List Nat:=plN s (s.size+1-22)
theorem Wi (s:ByteArray) (w:World):Calls Tryz.prog 114 #[.string s] w fun e w' =>
 e = .returned (.func (.func 155) #[] #[.pointer (some ⟨w.heap.size,0,none⟩)])∧w'=w.alloc (.cells #[.string s] 9):=by
 go_enter Tryz.func114,Tryz.ntmps114
 go_wp2
 go_ret
 exact ⟨rfl,rfl⟩
set_option maxRecDepth 100000 in
set_option maxHeartbeats 2000000 in
theorem Wk (Bs:Nat) (s:ByteArray) (w:World) (hB:Blk w Bs [.string s] 9) (hs:s.size≤1000000) :
 SeqN Tryz.prog 155 #[.pointer (some ⟨Bs,0,none⟩)] (fun x:Nat => #[Value.int .i64 (x:Nat)]) [] [Bs] (fun xs=>xs=plS s) (fun pre=>pre <+: plS s) (fun pre x=>pre++[x] <+: plS s) w:=by
 intro l J Jx W hU hz hJ hJx hY h0
 have HY:=Lib.hid hY
 have HJ0:=Lib.hid h0
 have HB:=Lib.hid (hB.upd hU (by simp))
 have HPL:Hid (plS s=[]++plN s (s.size+1-22)):=Lib.hid rfl
 generalize plS s=PS at *
 clear hJ hY h0 hJx hU hz hB
 have hw0:IntKind.i64.wrap ((s.size:Int)-22)=(s.size:Int)-22:=IntWalk.i64_in _ (by omega)
 have c0:=HB.out.cell 0 rfl
 refine callsIn_of_wp Tryz.func155 rfl trivial ?_ rfl
 simp only [Tryz.ntmps155,List.size_toArray,List.length_cons,List.length_nil,Nat.reduceAdd,Nat.reduceSub,Array.replicate_succ,Array.replicate_zero,List.push_toArray,List.append_toArray,List.nil_append,List.cons_append]
 gi_wp2
 gi_loopg [3] (s.size+1-22) (fun g s3 wr => ∃ (k:Nat) (z:Int) (pre:List Nat),k=g∧s3 = .int .i64 z∧k≤s.size∧(z=(k:Int)-1∨z<0∧k=0) ∧ -100≤z∧Hid (PS=pre++plN s k)∧Hid (J pre wr)∧Hid (Blk wr Bs [.string s] 9))
 case atStart=>exact ⟨s.size+1-22,_,[],rfl,rfl,by omega,by omega,by omega,HPL,HJ0,HB⟩
 case round =>
  clear HB HJ0 HPL c0
  obtain ⟨k,z,pre,rfl,rfl,hk,hz,hz2,HP,HJp,HBk⟩:=hrel
  have c1:=HBk.out.cell 0 rfl
  by_cases hneg:z<0
  · have hn2 : ¬ (0:Int)≤z:=by omega
    obtain rfl:k=0:=by omega
    have HE:Hid (pre=PS):=Lib.hid (by rw [HP.out]; exact (List.append_nil pre).symm)
    gi_wp2
    go_end0
    exact ⟨⟨_,rfl⟩,.inl (HE.out▸HJp.out)⟩
  · obtain ⟨i,rfl⟩ : ∃ i:Nat,k=i+1:=⟨k-1,by omega⟩
    obtain rfl:z=(i:Int):=by omega
    have hn2:(0:Int)≤(i:Int):=by omega
    have hw1:IntKind.i64.wrap ((s.size:Int)-(i:Nat))=(s.size:Int)-(i:Nat):=IntWalk.i64_in _ (by omega)
    have hw2:IntKind.i64.wrap ((i:Int)-1)=(i:Int)-1:=IntWalk.i64_in _ (by omega)
    have HP2:Hid (PS=pre++(if 65557<s.size-i then [] else i::plN s i)):=HP
    clear hz hz2 HP hneg
    by_cases h6:65557<s.size-i
    · have h7 : ¬ (s.size:Int)-(i:Nat)≤65557:=by omega
      have HE:Hid (pre=PS):=Lib.hid (by rw [HP2.out,if_pos h6,List.append_nil])
      gi_wp2
      go_end0
      exact ⟨⟨_,rfl⟩,.inl (HE.out▸HJp.out)⟩
    have h7:(s.size:Int)-(i:Nat)≤65557:=by omega
    have HP3:Hid (PS=pre++i::plN s i):=Lib.hid (by rw [HP2.out,if_neg h6])
    have HP4:Hid (PS=(pre++[i])++plN s i):=Lib.hid (by rw [HP3.out]; simp)
    have HPX:Hid (pre++[i] <+: PS):=Lib.hid ⟨plN s i,HP4.out.symm⟩
    clear HP2 h6
    obtain ⟨fn,tmps,assign,body,hy,hRd⟩:=HY.out pre i wr HJp.out HPX.out (by intro k hk; simp at hk)
    gi_wp2
    refine hRd.mono ?_
    rintro e W3 (⟨rfl,hJ3,hk3⟩ | ⟨rfl,hJx3⟩)
    · have HD:Hid (Blk W3 Bs [.string s] 9):=Lib.hid ((hk3.2 Bs (by simp)).trans HBk.out)
      have HJ3:=Lib.hid hJ3
      clear hk3 hJ3 hy
      gi_wp2
      gi_roundg i
      all_goals first
       | omega
       | exact ⟨i,(i:Int)-1,pre++[i],rfl,by first | rfl | go_num,by omega,.inl rfl,by omega,HP4,HJ3,HD⟩
    · gi_wp2
      refine bodyPost_ret (results_none rfl _ _ _) rfl ?_
      exact ⟨⟨_,rfl⟩,.inr ⟨_,HPX.out,hJx3⟩⟩
end Go.Proofs.YtigjingielnaoaaGreatDoor
namespace Go.Proofs.YtigjingielnaoaaGreatDoor
open Go.RowKit
theorem zdD (n h:Int) (w:World):Calls Tryz.prog 195 #[.int .i64 n,.int .i64 h] w fun e w'=>e = .returned (.bool (decide (0≤n)&&decide (n≤h)))∧w'=w:=by
 by_cases h1:0≤n
 · by_cases h2:n≤h
   · rw [decide_eq_true h1,decide_eq_true h2]
     go_enter Tryz.func195,Tryz.ntmps195
     go_wp2
     go_ret
     exact ⟨rfl,rfl⟩
   · rw [decide_eq_true h1,decide_eq_false h2]
     go_enter Tryz.func195,Tryz.ntmps195
     go_wp2
     go_ret
     exact ⟨rfl,rfl⟩
 · rw [decide_eq_false h1]
   go_enter Tryz.func195,Tryz.ntmps195
   go_wp2
   go_ret
   exact ⟨rfl,rfl⟩
set_option maxRecDepth 100000 in
set_option maxHeartbeats 1600000 in
theorem Zz (e:EgD) (w:World):Calls Tryz.prog 125 #[e.v] w fun r w'=>r = .returned (.bool (zH e))∧Upd [] w w':=by
 obtain ⟨a,b,c,d⟩:=e
 have HV:Hid (zH ⟨a,b,c,d⟩=(decide (a≤65535)&&decide (b≤2147483647)&&decide (c≤2147483647)&&decide (d≤65535))):=Lib.hid rfl
 generalize zH ⟨a,b,c,d⟩=B at *
 unfold EgD.v
 dsimp only
 have HA:=Lib.hid (Blk.new w [.int .i64 (a:Nat),.int .i64 (b:Nat),.int .i64 (c:Nat),.int .i64 (d:Nat)] 44)
 have HU:=Lib.hid ((Upd.refl [] w).alloc (.cells #[.int .i64 (a:Nat),.int .i64 (b:Nat),.int .i64 (c:Nat),.int .i64 (d:Nat)] 44))
 go_enter Tryz.func125,Tryz.ntmps125
 go_upto_region 1 with fail
 change Code.wp _ _ _ _ (w.alloc (.cells #[.int .i64 (a:Nat),.int .i64 (b:Nat),.int .i64 (c:Nat),.int .i64 (d:Nat)] 44))
 generalize w.alloc (.cells #[.int .i64 (a:Nat),.int .i64 (b:Nat),.int .i64 (c:Nat),.int .i64 (d:Nat)] 44)=w1 at *
 generalize w.heap.size=q at *
 have cA:=HA.out.all
 have p0:(0:Int)≤(a:Int):=by omega
 have p1:(0:Int)≤(b:Int):=by omega
 have p2:(0:Int)≤(c:Int):=by omega
 have p3:(0:Int)≤(d:Int):=by omega
 by_cases ha:a≤65535
 · have za:(a:Int)<65536:=by omega
   by_cases hd:d≤65535
   · have zd:(d:Int)<65536:=by omega
     by_cases hb:b≤2147483647
     · have zb:(b:Int)<2147483648:=by omega
       by_cases hc:c≤2147483647
       · have zc:(c:Int)<2147483648:=by omega
         have HT:=Lib.hid (HV.out.trans (show _=true by simp [ha,hd,hb,hc]))
         clear ha hd hb hc
         go_wp2
         go_returns
         exact ⟨by rw [HT.out]; rfl,HU.out⟩
       · have zc : ¬ (c:Int)<2147483648:=by omega
         have HT:=Lib.hid (HV.out.trans (show _=false by simp [hc]))
         clear hc ha hd hb
         go_wp2
         go_returns
         exact ⟨by rw [HT.out]; rfl,HU.out⟩
     · have zb : ¬ (b:Int)<2147483648:=by omega
       have HT:=Lib.hid (HV.out.trans (show _=false by simp [hb]))
       clear hb ha hd
       go_wp2
       go_returns
       exact ⟨by rw [HT.out]; rfl,HU.out⟩
   · have zd : ¬ (d:Int)<65536:=by omega
     have HT:=Lib.hid (HV.out.trans (show _=false by simp [hd]))
     clear hd ha
     go_wp2
     go_returns
     exact ⟨by rw [HT.out]; rfl,HU.out⟩
 · have za : ¬ (a:Int)<65536:=by omega
   have HT:=Lib.hid (HV.out.trans (show _=false by simp [ha]))
   clear ha
   go_wp2
   go_returns
   exact ⟨by rw [HT.out]; rfl,HU.out⟩
set_option maxRecDepth 100000 in
set_option maxHeartbeats 1600000 in
theorem Vc (e:EgD) (w:World):Calls Tryz.prog 158 #[e.v] w fun r w'=>r = .returned (.bool (zH e))∧Upd [] w w':=by
 obtain ⟨a,b,c,d⟩:=e
 have HV:Hid (zH ⟨a,b,c,d⟩=(decide (a≤65535)&&decide (b≤2147483647)&&decide (c≤2147483647)&&decide (d≤65535))):=Lib.hid rfl
 generalize zH ⟨a,b,c,d⟩=B at *
 unfold EgD.v
 dsimp only
 have HA:=Lib.hid (Blk.new w [.int .i64 (a:Nat),.int .i64 (b:Nat),.int .i64 (c:Nat),.int .i64 (d:Nat)] 69)
 have HU:=Lib.hid ((Upd.refl [] w).alloc (.cells #[.int .i64 (a:Nat),.int .i64 (b:Nat),.int .i64 (c:Nat),.int .i64 (d:Nat)] 69))
 have HI:=Lib.hid (fun (x:Nat) h z=>zdD (x:Int) h z)
 go_enter Tryz.func158,Tryz.ntmps158
 go_upto_region 1 with fail
 change Code.wp _ _ _ _ (w.alloc (.cells #[.int .i64 (a:Nat),.int .i64 (b:Nat),.int .i64 (c:Nat),.int .i64 (d:Nat)] 69))
 generalize w.alloc (.cells #[.int .i64 (a:Nat),.int .i64 (b:Nat),.int .i64 (c:Nat),.int .i64 (d:Nat)] 69)=w1 at *
 generalize w.heap.size=q at *
 have cA:=HA.out.all
 have p0:(0:Int)≤(a:Int):=by omega
 have p1:(0:Int)≤(b:Int):=by omega
 have p2:(0:Int)≤(c:Int):=by omega
 have p3:(0:Int)≤(d:Int):=by omega
 by_cases ha:a≤65535
 · have ga:=Lib.hid (fun z=>(show Calls Tryz.prog 195 #[.int .i64 (a:Nat),.int .i64 65535] z fun e w'=>e = .returned (.bool true)∧w'=z from by have h:=HI.out a 65535 z; rw [decide_eq_true p0,decide_eq_true (by omega)] at h; exact h))
   go_wp2_with fail
   refine (ga.out _).mono ?_
   rintro e w5 ⟨rfl,rfl⟩
   by_cases hb:b≤2147483647
   · have gb:=Lib.hid (fun z=>(show Calls Tryz.prog 195 #[.int .i64 (b:Nat),.int .i64 2147483647] z fun e w'=>e = .returned (.bool true)∧w'=z from by have h:=HI.out b 2147483647 z; rw [decide_eq_true p1,decide_eq_true (by omega)] at h; exact h))
     go_wp2_with fail
     refine (gb.out _).mono ?_
     rintro e w6 ⟨rfl,rfl⟩
     by_cases hc:c≤2147483647
     · have gc:=Lib.hid (fun z=>(show Calls Tryz.prog 195 #[.int .i64 (c:Nat),.int .i64 2147483647] z fun e w'=>e = .returned (.bool true)∧w'=z from by have h:=HI.out c 2147483647 z; rw [decide_eq_true p2,decide_eq_true (by omega)] at h; exact h))
       go_wp2_with fail
       refine (gc.out _).mono ?_
       rintro e w7 ⟨rfl,rfl⟩
       by_cases hd:d≤65535
       · have gd:=Lib.hid (fun z=>(show Calls Tryz.prog 195 #[.int .i64 (d:Nat),.int .i64 65535] z fun e w'=>e = .returned (.bool true)∧w'=z from by have h:=HI.out d 65535 z; rw [decide_eq_true p3,decide_eq_true (by omega)] at h; exact h))
         go_wp2_with fail
         refine (gd.out _).mono ?_
         rintro e w8 ⟨rfl,rfl⟩
         have HT:=Lib.hid (HV.out.trans (show _=true by simp [ha,hb,hc,hd]))
         clear ha hb hc hd
         go_wp2
         go_returns
         exact ⟨by rw [HT.out]; rfl,HU.out⟩
       · have gd:=Lib.hid (fun z=>(show Calls Tryz.prog 195 #[.int .i64 (d:Nat),.int .i64 65535] z fun e w'=>e = .returned (.bool false)∧w'=z from by have h:=HI.out d 65535 z; rw [decide_eq_true p3,decide_eq_false (by omega)] at h; exact h))
         have HT:=Lib.hid (HV.out.trans (show _=false by simp [hd]))
         clear hd ha hb hc
         go_wp2_with fail
         refine (gd.out _).mono ?_
         rintro e w8 ⟨rfl,rfl⟩
         go_wp2
         go_returns
         exact ⟨by rw [HT.out]; rfl,HU.out⟩
     · have gc:=Lib.hid (fun z=>(show Calls Tryz.prog 195 #[.int .i64 (c:Nat),.int .i64 2147483647] z fun e w'=>e = .returned (.bool false)∧w'=z from by have h:=HI.out c 2147483647 z; rw [decide_eq_true p2,decide_eq_false (by omega)] at h; exact h))
       have HT:=Lib.hid (HV.out.trans (show _=false by simp [hc]))
       clear hc ha hb
       go_wp2_with fail
       refine (gc.out _).mono ?_
       rintro e w7 ⟨rfl,rfl⟩
       go_wp2
       go_returns
       exact ⟨by rw [HT.out]; rfl,HU.out⟩
   · have gb:=Lib.hid (fun z=>(show Calls Tryz.prog 195 #[.int .i64 (b:Nat),.int .i64 2147483647] z fun e w'=>e = .returned (.bool false)∧w'=z from by have h:=HI.out b 2147483647 z; rw [decide_eq_true p1,decide_eq_false (by omega)] at h; exact h))
     have HT:=Lib.hid (HV.out.trans (show _=false by simp [hb]))
     clear hb ha
     go_wp2_with fail
     refine (gb.out _).mono ?_
     rintro e w6 ⟨rfl,rfl⟩
     go_wp2
     go_returns
     exact ⟨by rw [HT.out]; rfl,HU.out⟩
 · have ga:=Lib.hid (fun z=>(show Calls Tryz.prog 195 #[.int .i64 (a:Nat),.int .i64 65535] z fun e w'=>e = .returned (.bool false)∧w'=z from by have h:=HI.out a 65535 z; rw [decide_eq_true p0,decide_eq_false (by omega)] at h; exact h))
   have HT:=Lib.hid (HV.out.trans (show _=false by simp [ha]))
   clear ha
   go_wp2_with fail
   refine (ga.out _).mono ?_
   rintro e w5 ⟨rfl,rfl⟩
   go_wp2
   go_returns
   exact ⟨by rw [HT.out]; rfl,HU.out⟩
end Go.Proofs.YtigjingielnaoaaGreatDoor
