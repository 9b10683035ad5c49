/- A loop over an iterator that writes cells of its own between two rounds, where it is known what may come next: the contract, and the law of the loop (as SeqW). -/
import Derived.BigRegion
import Derived.BigRegionIn
import Derived.Test.YtfkenhihcmmgkaaGreatDoorQBD
import Derived.Sort.CutIn
set_option linter.unusedVariables false
set_option linter.unusedSimpArgs false
set_option linter.unusedSectionVars false
set_option maxRecDepth 100000
set_option maxHeartbeats 12800000
namespace Go.Proofs.YtfkenhihcmmgkaaGreatDoor
open Go.RowKit
def SeqN {α:Type} (P:Program) (g:Nat) (lb:Array Value) (encs:α→Array Value) (fp ks:List Nat) (S Sp:List α→Prop) (Nx:List α→α→Prop) (w:World):Prop :=
 ∀ (l:Nat) (J Jx:List α→World→Prop) (W:World),Upd [] w W→W.heap.size=w.heap.size+2→(∀ s A B,J s A→Own2 fp A B→J s B)→(∀ s A B,Jx s A→Own2 fp A B→Jx s B) →
  (∀ pre x W1,J pre W1→Nx pre x→(∀ k∈fp,k<W1.heap.size)→YieldAt Fence.wide 7 P l (encs x) W1 fun e W'=>(e = .returned (.bool true)∧J (pre++[x]) W'∧Keep ks W1 W')∨(e = .returned (.bool false)∧Jx (pre++[x]) W'))→J [] W →
  CallsIn Fence.wide 8 P g (#[.func (.yield l) #[] #[]]++lb) W fun e W'=>(∃ v,e = .returned v)∧((∃ xs,S xs∧J xs W')∨(∃ pre,Sp pre∧Jx pre W'))
section
variable {α:Type} {P:Program} {g:Operand} {ps:Array Tmp} {assign body:Code} {Q:Exit→Act→World→Prop} {a:Act} {w:World}
theorem zku {gf:Nat} {lb:Array Value} (hg:a.eval g = .func (.func gf) #[] lb) (eg : ∀ args w,(callFunc gf args).run P w = .ok (.enter gf args) w)
 {encs:α→Array Value} {fp ks:List Nat} {S Sp:List α→Prop} {Nx:List α→α→Prop} (hseq:SeqN P gf lb encs fp ks S Sp Nx w) (hks : ∀ k∈ks,k≠w.heap.size+1) (hps : ∀ x,(encs x).size=ps.size)
 (I:List α→World→Prop) (Ix:Code→List α→World→Prop) (Mid:List α→α→Act→World→Prop)
 (hI:OwnFrom w.heap.size I) (hIx : ∀ c,OwnFrom w.heap.size (Ix c)) (hMid : ∀ pre x a',OwnFrom w.heap.size (fun (_:Unit) W=>Mid pre x a' W))
 (hIw : ∀ s A B,I s A→Own2 fp A B→I s B) (hIxw : ∀ c s A B,Ix c s A→Own2 fp A B→Ix c s B) (h0:I [] w)
 (hassign : ∀ (l:Nat) (pre:List α) (x:α) (W:World) (K:Act→World→Prop),I pre W→w.heap.size≤W.heap.size→(∀ k∈fp,k<W.heap.size)→(∀ a' W',KeepsFrom w.heap.size W W'→Keep ks W W'→Mid pre x a' W'→K a' W') →
  assign.wpIn (Fence.wide.inRound l) 7 P (Exit.then K (fun _ _ _=>False)) { tmps:=(ps.zip (encs x)).foldl (fun t (p,v)=>t.setIfInBounds p v) a.tmps,defers:=[] } W)
 (hbody : ∀ (l:Nat) (pre:List α) (x:α) (a':Act) (W:World),w.heap.size≤W.heap.size→Mid pre x a' W→Nx pre x →
  body.wpIn (Fence.wide.inRound l) 7 P (ownPostG w.heap.size (Keep ks) I Ix (pre++[x]) W) a' W)
 (hdone : ∀ (D:Nat) (xs:List α) (W:World),w.heap.size≤D→S xs→I xs W→W.heap[D]? =some (.deferred (some []))→Q .normal { a with defers := { target := .collected D,args := #[] }::a.defers } W)
 (hstop : ∀ (D:Nat) (c:Code) (pre:List α) (W:World),w.heap.size≤D→Sp pre→Ix c pre W→W.heap[D]? =some (.deferred (some []))→c.wpIn Fence.wide 9 P Q { a with defers := { target := .collected D,args := #[] }::a.defers } W) :
 (Code.rangeFunc g ps assign body).wpIn Fence.wide 9 P Q a w:=by
 refine wpIn_rangeFunc fun fn hfn=>?_
 let rc:LoopState→Option Code→Loop:=fun s p => { state:=s,pending:=p,fn,tmps:=a.tmps,params:=ps,assign,body,defers:=w.heap.size }
 let wD:=w.alloc (.deferred (some []))
 let wL:=wD.alloc (.loop (rc .ready none))
 have zD:wD.heap.size=w.heap.size+1:=by simp [wD]
 have recL:wL.heap[w.heap.size+1]? =some (.loop (rc .ready none)):=by
  have:=World.alloc_heap_new wD (.loop (rc .ready none)); rwa [zD] at this
 have defL:wL.heap[w.heap.size]? =some (.deferred (some [])):=(Below.heap_alloc wD _ _ (by omega)).trans (World.alloc_heap_new w _);have iL:I [] wL:=hI.alloc _ (hI.alloc _ h0);have uL:Upd [] w wL:=((Upd.refl [] w).alloc _).alloc _;refine ⟨w.heap.size+1,[{ target := .collected w.heap.size,args := #[] }],wL,{ target := .fn (.func gf) lb,args := #[.func (.yield (w.heap.size+1)) #[] #[]] },wL,gf,#[.func (.yield (w.heap.size+1)) #[] #[]]++lb,wL,run_enterLoop_outer _ _ _ _ _,by simp only [resolve,hg]; simp [go_sem],fun _ _=>trivial,by simp [invoke,go_sem,eg],(fun _=>by omega),?_⟩;have kept : ∀ {A B:World} {k:Nat} {o:Obj},Own2 fp A B→A.heap[k]? =some o→o.isCells=false→B.heap[k]? =some o:=fun hAB h hc=>hAB.2.same _ _ h hc;refine (hseq (w.heap.size+1)
  (fun s W=>I s W∧W.heap[w.heap.size+1]? =some (.loop (rc .ready none))∧W.heap[w.heap.size]? =some (.deferred (some [])))
  (fun s W => ∃ c,Ix c s W∧W.heap[w.heap.size+1]? =some (.loop (rc .done (some c)))∧W.heap[w.heap.size]? =some (.deferred (some [])))
  wL uL (by simp [wL,zD]) (fun s A B h hAB=>⟨hIw s A B h.1 hAB,kept hAB h.2.1 rfl,kept hAB h.2.2 rfl⟩)
  (fun s A B h hAB=>by obtain ⟨c,h1,h2,h3⟩:=h; exact ⟨c,hIxw c s A B h1 hAB,kept hAB h2 rfl,kept hAB h3 rfl⟩) ?round ⟨iL,recL,defL⟩).mono ?behind
 case round =>
  rintro pre x W ⟨hi,hr,hd⟩ hlen hfp;have hsz:w.heap.size≤W.heap.size:=by have:=(Array.getElem?_eq_some_iff.1 hr).1; omega
  refine ⟨fn,_,assign,body,run_yield (r:=rc .ready none) hr (hps x),roundIn_of_wpIn hfn (hassign _ pre x W _ hi hsz hfp fun a' Wa hkf hkp hmid=>?_)⟩;have hr1:=hkf.same _ _ (by omega) hr rfl;have hd1:=hkf.same _ _ (Nat.le_refl _) hd rfl;have hl1:w.heap.size+1<Wa.heap.size:=(Array.getElem?_eq_some_iff.1 hr1).1;refine ⟨_,run_beginRound hr1 rfl,?_⟩
  let Wb:=Wa.putObj (w.heap.size+1) (.loop (rc .busy none))
  have hr2:Wb.heap[w.heap.size+1]? =some (.loop (rc .busy none)):=World.putObj_heap_same hl1;have hd2:Wb.heap[w.heap.size]? =some (.deferred (some [])):=(World.putObj_heap_other (by omega)).trans hd1;have hkb:Keep ks W Wb:=hkp.trans (Keep.putObj _ fun k hk=>hks k hk);have hmb:Mid pre x a' Wb:=(hMid pre x a').putObj (s:=()) _ hmid (by omega) hr1 rfl;refine wpIn_mono (hbody _ pre x a' Wb (by show w.heap.size≤(Wa.putObj _ _).heap.size; simp; omega) hmb hlen) fun e a3 W3 hp=>?_;have fin : ∀ (j:Option Code),KeepsFrom w.heap.size Wb W3 →
   (Instr.endRound (w.heap.size+1) j).run P W3 = .ok (.bool j.isNone) (W3.putObj (w.heap.size+1) (.loop (rc (if j.isNone then .ready else .done) j)))∧W3.heap[w.heap.size+1]? =some (.loop (rc .busy none)) ∧
   (W3.putObj (w.heap.size+1) (.loop (rc (if j.isNone then .ready else .done) j))).heap[w.heap.size+1]? =some (.loop (rc (if j.isNone then .ready else .done) j)) ∧
   (W3.putObj (w.heap.size+1) (.loop (rc (if j.isNone then .ready else .done) j))).heap[w.heap.size]? =some (.deferred (some [])):=fun j hk=>by
   have hr3:=hk.same _ _ (by omega) hr2 rfl;exact ⟨run_endRound j hr3,hr3,World.putObj_heap_same (Array.getElem?_eq_some_iff.1 hr3).1,(World.putObj_heap_other (by omega)).trans (hk.same _ _ (Nat.le_refl _) hd2 rfl)⟩
  have out : ∀ (c:Code),KeepsFrom w.heap.size Wb W3∧Ix c (pre++[x]) W3 → ∃ v W4,(Instr.endRound (w.heap.size+1) (some c)).run P W3 = .ok v W4 ∧
   ((Ending.returned v = .returned (.bool true)∧(I (pre++[x]) W4∧W4.heap[w.heap.size+1]? =some (.loop (rc .ready none))∧W4.heap[w.heap.size]? =some (.deferred (some [])))∧Keep ks W W4) ∨
    (Ending.returned v = .returned (.bool false) ∧ ∃ c,Ix c (pre++[x]) W4∧W4.heap[w.heap.size+1]? =some (.loop (rc .done (some c)))∧W4.heap[w.heap.size]? =some (.deferred (some [])))):=fun c h=>by
   obtain ⟨hrun,hr3,hr4,hd4⟩:=fin (some c) h.1;exact ⟨_,_,hrun,.inr ⟨rfl,c,(hIx c).putObj _ h.2 (by omega) hr3 rfl,hr4,hd4⟩⟩
  cases e with
  | normal =>
    obtain ⟨hrun,hr3,hr4,hd4⟩:=fin none hp.1;exact ⟨_,_,hrun,.inl ⟨rfl,⟨hI.putObj _ hp.2.2 (by omega) hr3 rfl,hr4,hd4⟩,(hkb.trans hp.2.1).trans (Keep.putObj _ fun k hk=>hks k hk)⟩⟩
  | ret=>exact out .ret hp
  | exit id=>exact out (.exit id) hp
  | goto t=>exact out (.goto t) hp
  | panic ch=>exact hp.elim
  | outgrown=>exact hp.elim
 case behind =>
  rintro e W2 ⟨⟨v,rfl⟩,(⟨xs,hS,hi,hr,hd⟩ | ⟨pre,hSp,c,hi,hr,hd⟩)⟩
  · exact ⟨none,_,run_endLoop (r:=rc .ready none) hr (by simp [rc]),hdone _ xs _ (Nat.le_refl _) hS (hI.putObj _ hi (by omega) hr rfl) ((World.putObj_heap_other (by omega)).trans hd)⟩
  · exact ⟨some c,_,run_endLoop (r:=rc .done (some c)) hr (by simp [rc]),hstop _ c pre _ (Nat.le_refl _) hSp ((hIx c).putObj _ hi (by omega) hr rfl) ((World.putObj_heap_other (by omega)).trans hd)⟩
theorem zcf {gf:Nat} {lb:Array Value} (hg:a.eval g = .func (.func gf) #[] lb) (eg : ∀ args w,(callFunc gf args).run P w = .ok (.enter gf args) w)
 {encs:α→Array Value} {fp ks:List Nat} {S Sp:List α→Prop} {Nx:List α→α→Prop} (hseq:SeqN P gf lb encs fp ks S Sp Nx w) (hks : ∀ k∈ks,k≠w.heap.size+1) (hps : ∀ x,(encs x).size=ps.size)
 (I:List α→World→Prop) (Ix:Code→List α→World→Prop) (act:α→Act)
 (hI:OwnFrom w.heap.size I) (hIx : ∀ c,OwnFrom w.heap.size (Ix c)) (hIw : ∀ s A B,I s A→Own2 fp A B→I s B) (hIxw : ∀ c s A B,Ix c s A→Own2 fp A B→Ix c s B) (h0:I [] w)
 (hassign : ∀ (l:Nat) (x:α) (W:World) (K:Act→World→Prop),K (act x) W →
  assign.wpIn (Fence.wide.inRound l) 7 P (Exit.then K (fun _ _ _=>False)) { tmps:=(ps.zip (encs x)).foldl (fun t (p,v)=>t.setIfInBounds p v) a.tmps,defers:=[] } W)
 (hbody : ∀ (l:Nat) (pre:List α) (x:α) (W:World),w.heap.size≤W.heap.size→(∀ k∈fp,k<W.heap.size)→I pre W→Nx pre x →
  body.wpIn (Fence.wide.inRound l) 7 P (ownPostG w.heap.size (Keep ks) I Ix (pre++[x]) W) (act x) W)
 (hdone : ∀ (D:Nat) (xs:List α) (W:World),w.heap.size≤D→S xs→I xs W→W.heap[D]? =some (.deferred (some []))→Q .normal { a with defers := { target := .collected D,args := #[] }::a.defers } W)
 (hstop : ∀ (D:Nat) (c:Code) (pre:List α) (W:World),w.heap.size≤D→Sp pre→Ix c pre W→W.heap[D]? =some (.deferred (some []))→c.wpIn Fence.wide 9 P Q { a with defers := { target := .collected D,args := #[] }::a.defers } W) :
 (Code.rangeFunc g ps assign body).wpIn Fence.wide 9 P Q a w :=
 zku hg eg hseq hks hps I Ix (fun pre x a' W=>(I pre W ∧ ∀ k∈fp,k<W.heap.size)∧a'=act x) hI hIx
  (fun pre x a' _ A B row hs hg hr=>⟨⟨hI pre A B row hs.1.1 hg hr,fun k hk=>Nat.lt_of_lt_of_le (hs.1.2 k hk) hg.size⟩,hs.2⟩) hIw hIxw h0
  (fun l pre x W K hi hsz hfp hK=>hassign l x W K (hK _ _ (KeepsFrom.refl _ _) (Keep.refl _ _) ⟨⟨hi,hfp⟩,rfl⟩))
  (fun l pre x a' W hsz hm hlt=>by obtain ⟨⟨h1,h2⟩,rfl⟩:=hm; exact hbody l pre x W hsz h2 h1 hlt) hdone hstop
end
theorem SeqN.wide {α:Type} {P:Program} {g:Nat} {lb:Array Value} {encs:α→Array Value} {fp ks:List Nat} {S Sp:List α→Prop} {Nx:List α→α→Prop} {N:Nat} {w:World} (h:SeqN P g lb encs fp ks S Sp Nx w) (hN : ∀ pre x,Nx pre x→pre.length<N):ziM P g lb encs fp ks S Sp N w :=
 fun l J Jx W hU hz hJ hJx hY h0=>h l J Jx W hU hz hJ hJx (fun pre x W1 h1 h2 h3=>hY pre x W1 h1 (hN pre x h2) h3) h0
end Go.Proofs.YtfkenhihcmmgkaaGreatDoor
namespace Go.Proofs.YtfkenhihcmmgkaaGreatDoor
open Go.RowKit Go.Shelf
attribute [local go_sem] Oper.semAt_some
def plN (s:ByteArray):Nat→List Nat
 | 0=>[]
 | i+1=>if 65557<s.size-i then [] else i::plN s i
def plS (s:ByteArray):List Nat:=plN s (s.size+1-22)
theorem zcm (s:ByteArray) (w:World):Calls Tryz.prog 72 #[.string s] w fun e w' =>
 e = .returned (.func (.func 124) #[] #[.pointer (some ⟨w.heap.size,0,none⟩)])∧w'=w.alloc (.cells #[.string s] 9):=by
 go_enter Tryz.func72,Tryz.ntmps72;go_wp2;go_ret;exact ⟨rfl,rfl⟩
theorem zbV (Bs:Nat) (s:ByteArray) (w:World) (hB:Blk w Bs [.string s] 9) (hs:s.size≤1000000) :
 SeqN Tryz.prog 124 #[.pointer (some ⟨Bs,0,none⟩)] (fun x:Nat => #[Value.int .i64 (x:Nat)]) [] [Bs] (fun xs=>xs=plS s) (fun pre=>pre <+: plS s) (fun pre x=>pre++[x] <+: plS s) w:=by
 intro l J Jx W hU hz hJ hJx hY h0;have HY:=Hi hY;have HJ0:=Hi h0;have HB:=Hi (hB.upd hU (by simp));have HPL:Hid (plS s=[]++plN s (s.size+1-22)):=Hi rfl;generalize plS s=PS at *;clear hJ hY h0 hJx hU hz hB;have hw0:IntKind.i64.wrap ((s.size:Int)-22)=(s.size:Int)-22:=IntWalk.i64_in _ (by omega);have c0:=HB.out.cell 0 rfl;refine callsIn_of_wp Tryz.func124 rfl trivial ?_ rfl;simp only [Tryz.ntmps124,List.size_toArray,List.length_cons,List.length_nil,Nat.reduceAdd,Nat.reduceSub,Array.replicate_succ,Array.replicate_zero,List.push_toArray,List.append_toArray,List.nil_append,List.cons_append]
 gi_wp2
 gi_loopg [3] (s.size+1-22) (fun g s3 wr => ∃ (k:Nat) (z:Int) (pre:List Nat),k=g∧s3 = .int .i64 z∧k≤s.size∧(z=(k:Int)-1∨z<0∧k=0) ∧ -100≤z∧Hid (PS=pre++plN s k)∧Hid (J pre wr)∧Hid (Blk wr Bs [.string s] 9))
 case atStart=>exact ⟨s.size+1-22,_,[],rfl,rfl,by omega,by omega,by omega,HPL,HJ0,HB⟩
 case round =>
  clear HB HJ0 HPL c0;obtain ⟨k,z,pre,rfl,rfl,hk,hz,hz2,HP,HJp,HBk⟩:=hrel;have c1:=HBk.out.cell 0 rfl;by_cases hneg:z<0
  · have hn2 : ¬ (0:Int)≤z:=(by omega);obtain rfl:k=0:=(by omega);have HE:Hid (pre=PS):=Hi (by rw [HP.out]; exact (List.append_nil pre).symm)
    gi_wp2
    go_end0
    exact ⟨⟨_,rfl⟩,.inl (HE.out▸HJp.out)⟩
  · obtain ⟨i,rfl⟩ : ∃ i:Nat,k=i+1:=⟨k-1,by omega⟩;obtain rfl:z=(i:Int):=(by omega);have hn2:(0:Int)≤(i:Int):=(by omega);have hw1:IntKind.i64.wrap ((s.size:Int)-(i:Nat))=(s.size:Int)-(i:Nat):=IntWalk.i64_in _ (by omega);have hw2:IntKind.i64.wrap ((i:Int)-1)=(i:Int)-1:=IntWalk.i64_in _ (by omega);have HP2:Hid (PS=pre++(if 65557<s.size-i then [] else i::plN s i)):=HP;clear hz hz2 HP hneg;by_cases h6:65557<s.size-i
    · have h7 : ¬ (s.size:Int)-(i:Nat)≤65557:=(by omega);have HE:Hid (pre=PS):=Hi (by rw [HP2.out,if_pos h6,List.append_nil])
      gi_wp2
      go_end0
      exact ⟨⟨_,rfl⟩,.inl (HE.out▸HJp.out)⟩
    have h7:(s.size:Int)-(i:Nat)≤65557:=(by omega);have HP3:Hid (PS=pre++i::plN s i):=Hi (by rw [HP2.out,if_neg h6]);have HP4:Hid (PS=(pre++[i])++plN s i):=Hi (by rw [HP3.out]; simp);have HPX:Hid (pre++[i] <+: PS):=Hi ⟨plN s i,HP4.out.symm⟩;clear HP2 h6;obtain ⟨fn,tmps,assign,body,hy,hRd⟩:=HY.out pre i wr HJp.out HPX.out (by intro k hk; simp at hk)
    gi_wp2
    refine hRd.mono ?_;rintro e W3 (⟨rfl,hJ3,hk3⟩ | ⟨rfl,hJx3⟩)
    · have HD:Hid (Blk W3 Bs [.string s] 9):=Hi ((hk3.2 Bs (by simp)).trans HBk.out);have HJ3:=Hi hJ3;clear hk3 hJ3 hy
      gi_wp2
      gi_roundg i
      all_goals first
       | omega
       | exact ⟨i,(i:Int)-1,pre++[i],rfl,by first | rfl | go_num,by omega,.inl rfl,by omega,HP4,HJ3,HD⟩
    · gi_wp2
      refine bodyPost_ret (results_none rfl _ _ _) rfl ?_;exact ⟨⟨_,rfl⟩,.inr ⟨_,HPX.out,hJx3⟩⟩
end Go.Proofs.YtfkenhihcmmgkaaGreatDoor
namespace Go.Proofs.YtfkenhihcmmgkaaGreatDoor
open Go.RowKit
theorem WL {fn:Func} {p t:Tmp} (h:fn.results = #[.cell p 38,.tmp t]) (tmps:Array Value) (w:World) (g:Nat) (c0 c1 c2 c3:Value) (hp:tmps.getD p undef = .pointer (some ⟨g,0,none⟩)) (hB:Blk w g [c0,c1,c2,c3] 38) :
 (results fn tmps).run Tryz.prog w = .ok (.tuple #[.agg #[c0,c1,c2,c3],tmps.getD t undef]) w:=by
 have h0:=hB.cell 0 rfl;have h1:=hB.cell 1 rfl;have h2:=hB.cell 2 rfl;have h3:=hB.cell 3 rfl;have hp2:tmps[p]?.getD undef = .pointer (some ⟨g,0,none⟩):=by rw [← hp]; simp
 simp [results,h,go_sem,hp2,h0,h1,h2,h3]
theorem zfK (bx rb k v:Nat) (r r':RS) (w:World) (h:r.num k=(v,r')) (hX:Blk w bx [.pointer (some ⟨rb,0,none⟩)] 166) (hB:Rdr w rb r) (hs:r.s.size≤1000000) (hp:r.p≤r.s.size) (hk:k≤4) :
 Calls Tryz.prog 125 #[.int .i64 (k:Nat),.pointer (some ⟨bx,0,none⟩)] w fun e w'=>e = .returned (.int .i64 (v:Nat))∧Rdr w' rb r'∧Upd [rb] w w':=by
 have HN:=Hi (zM rb k v r r' w h hB hs hp (by omega));have hv:v<4294967296:=by
  have h1:=RS.num_lt r k;rw [h] at h1;exact Nat.lt_of_lt_of_le h1 (Nat.le_trans (Nat.pow_le_pow_right (by omega) hk) (by decide))
 have c0:=hX.cell 0 rfl;clear hX hB h;go_enter Tryz.func125,Tryz.ntmps125;go_wp2_with fail
 refine HN.out.mono ?_;rintro e w2 ⟨rfl,hr,hu⟩;have HR:=Hi hr;have HU:=Hi hu;clear hr hu;go_wp2;go_returns;exact ⟨by first | rfl | go_num,HR.out,HU.out⟩
end Go.Proofs.YtfkenhihcmmgkaaGreatDoor
namespace Go.Proofs.YtfkenhihcmmgkaaGreatDoor
open Go.RowKit Go.Shelf
attribute [local go_sem] Oper.semAt_some
theorem WH {fn:Func} {p q r:Tmp} (h:fn.results = #[.cell p 38,.cell q 3,.cell r 4]) (tmps:Array Value) (w:World) (g2 g3 g4:Nat) (c0 c1 c2 c3 d e:Value) (hp:tmps.getD p undef = .pointer (some ⟨g2,0,none⟩)) (hq:tmps.getD q undef = .pointer (some ⟨g3,0,none⟩)) (hr:tmps.getD r undef = .pointer (some ⟨g4,0,none⟩)) (h2:Blk w g2 [c0,c1,c2,c3] 38) (h3:Blk w g3 [d] 3) (h4:Blk w g4 [e] 4) :
 (results fn tmps).run Tryz.prog w = .ok (.tuple #[.agg #[c0,c1,c2,c3],d,e]) w:=by
 have e0:=h2.cell 0 rfl;have e1:=h2.cell 1 rfl;have e2:=h2.cell 2 rfl;have e3:=h2.cell 3 rfl;have e4:=h3.cell 0 rfl;have e5:=h4.cell 0 rfl;have hp2:tmps[p]?.getD undef = .pointer (some ⟨g2,0,none⟩):=by rw [← hp]; simp
 have hq2:tmps[q]?.getD undef = .pointer (some ⟨g3,0,none⟩):=by rw [← hq]; simp
 have hr2:tmps[r]?.getD undef = .pointer (some ⟨g4,0,none⟩):=by rw [← hr]; simp
 simp [results,h,go_sem,hp2,hq2,hr2,e0,e1,e2,e3,e4,e5]
def FnI (s:ByteArray) (w0:World) (b1 b2 b3 b4:Nat) (pre:List Nat) (W:World):Prop:=Blk W b1 [.string s] 9∧Blk W b2 [.int .i64 0,.int .i64 0,.int .i64 0,.int .i64 0] 38∧Blk W b3 [.int .i64 0] 3∧Blk W b4 [.bool false] 4∧Upd [] w0 W∧Hid (∀ i∈pre,(egP s (i:Nat)).2=false)
def FnX (s:ByteArray) (w0:World) (b2 b3 b4:Nat) (pre:List Nat) (W:World):Prop := ∃ (p:List Nat) (x:Nat),pre=p++[x]∧(∀ i∈p,(egP s (i:Nat)).2=false)∧(egP s (x:Nat)).2=true∧Blk W b2 (egP s (x:Nat)).1.cells 38∧Blk W b3 [.int .i64 (x:Nat)] 3∧Blk W b4 [.bool true] 4∧Upd [] w0 W
theorem FnI.own {s:ByteArray} {w0:World} {b1 b2 b3 b4 B:Nat} (hB:w0.heap.size≤B):OwnFrom B (FnI s w0 b1 b2 b3 b4):=fun pre X C row hs hg hr=>by
 obtain ⟨h1,h2,h3,h4,hu,hf⟩:=hs;exact ⟨zF B b1 (fun (_:Unit)=>_) _ () X C row h1 hg hr,zF B b2 (fun (_:Unit)=>_) _ () X C row h2 hg hr,zF B b3 (fun (_:Unit)=>_) _ () X C row h3 hg hr,zF B b4 (fun (_:Unit)=>_) _ () X C row h4 hg hr,qa B [] w0 hB () X C row hu hg hr,hf⟩
theorem FnX.own {s:ByteArray} {w0:World} {b2 b3 b4 B:Nat} (hB:w0.heap.size≤B):OwnFrom B (FnX s w0 b2 b3 b4):=fun pre X C row hs hg hr=>by
 obtain ⟨p,x,e,f1,f2,h2,h3,h4,hu⟩:=hs;exact ⟨p,x,e,f1,f2,zF B b2 (fun (_:Unit)=>_) _ () X C row h2 hg hr,zF B b3 (fun (_:Unit)=>_) _ () X C row h3 hg hr,zF B b4 (fun (_:Unit)=>_) _ () X C row h4 hg hr,qa B [] w0 hB () X C row hu hg hr⟩
theorem FnI.w2 {s:ByteArray} {w0:World} {b1 b2 b3 b4:Nat} {pre:List Nat} {A C:World} (hs:FnI s w0 b1 b2 b3 b4 pre A) (hAC:Own2 [] A C):FnI s w0 b1 b2 b3 b4 pre C:=by
 obtain ⟨k1,k2,k3,k4,ku,hf⟩:=hs;exact ⟨k1.upd hAC.1 (by simp),k2.upd hAC.1 (by simp),k3.upd hAC.1 (by simp),k4.upd hAC.1 (by simp),ku.then hAC.1,hf⟩
theorem FnX.w2 {s:ByteArray} {w0:World} {b2 b3 b4:Nat} {pre:List Nat} {A C:World} (hs:FnX s w0 b2 b3 b4 pre A) (hAC:Own2 [] A C):FnX s w0 b2 b3 b4 pre C:=by
 obtain ⟨p,x,e,f1,f2,k2,k3,k4,ku⟩:=hs;exact ⟨p,x,e,f1,f2,k2.upd hAC.1 (by simp),k3.upd hAC.1 (by simp),k4.upd hAC.1 (by simp),ku.then hAC.1⟩
end Go.Proofs.YtfkenhihcmmgkaaGreatDoor
namespace Go.Proofs.YtfkenhihcmmgkaaGreatDoor
open Go.RowKit
theorem zdo {fn:Func} {p t u:Tmp} (h:fn.results = #[.tmp t,.cell p 38,.tmp u]) (tmps:Array Value) (w:World) (g:Nat) (c0 c1 c2 c3:Value) (hp:tmps.getD p undef = .pointer (some ⟨g,0,none⟩)) (hB:Blk w g [c0,c1,c2,c3] 38) :
 (results fn tmps).run Tryz.prog w = .ok (.tuple #[tmps.getD t undef,.agg #[c0,c1,c2,c3],tmps.getD u undef]) w:=by
 have h0:=hB.cell 0 rfl;have h1:=hB.cell 1 rfl;have h2:=hB.cell 2 rfl;have h3:=hB.cell 3 rfl;have hp2:tmps[p]?.getD undef = .pointer (some ⟨g,0,none⟩):=by rw [← hp]; simp
 simp [results,h,go_sem,hp2,h0,h1,h2,h3]
theorem JR {w:World} {e t:TypeId} {size n b:Nat} {v:Value} {xs cs:List Value} (h:Row w e size v n xs) (hB:Blk w b cs t) (ht:t≠e):v.ownBlock≠some b:=fun hk=>by
 rcases h.2 with ⟨rfl,_⟩ | ⟨g,cap,cur,rfl,hb,hh,_⟩
 · simp [Value.ownBlock] at hk
 · simp [Value.ownBlock] at hk;subst hk;have hB2:w.heap[g]? =_:=hB;rw [hh] at hB2;simp at hB2;exact ht hB2.2.symm
theorem zjs {w:World} {e:TypeId} {size n k:Nat} {v:Value} {xs:List Value} (h:Row w e size v n xs) (hk:v.ownBlock=some k) : ∃ cs fr,w.heap[k]? =some (.cells cs e fr):=by
 rcases h.2 with ⟨rfl,-⟩ | ⟨g,cap,cur,rfl,-,hh,-⟩
 · simp [Value.ownBlock] at hk
 · simp [Value.ownBlock] at hk;subst hk;exact ⟨_,_,hh⟩
theorem zgB {w:World} {e e':TypeId} {s s' n n' k:Nat} {v v':Value} {xs xs':List Value} (h:Row w e s v n xs) (h':Row w e' s' v' n' xs') (hk:v.ownBlock=some k) (hk':v'.ownBlock=some k) (he:e≠e'):False:=by
 rcases h.2 with ⟨rfl,-⟩ | ⟨g,cap,cur,rfl,-,hh,-⟩
 · simp [Value.ownBlock] at hk
 rcases h'.2 with ⟨rfl,-⟩ | ⟨g',cap',cur',rfl,-,hh',-⟩
 · simp [Value.ownBlock] at hk'
 simp [Value.ownBlock] at hk hk';subst hk;subst hk';rw [hh] at hh';simp at hh';exact he hh'.2
theorem zeG (b bc C:Nat) (p ba:Option Addr) (N s:ByteArray) (w:World) (hB:Blk w b [.pointer p,.slice ba 0 bc,.slice none 0 0,.int .i64 0] 101) (hp:p=none∨p=some ⟨b,0,none⟩) (hR:Row w 5 1 (.slice ba 0 bc) 0 []) (hz:s.size≤1000000) :
 Calls Tryz.prog 49 #[.pointer (some ⟨b,0,none⟩),.agg #[.string N,.int .i64 0,.int .u32 (C:Nat),.int .i64 1,.int .i64 1,.int .i64 1,.int .i64 0,.int .u32 2162688,.int .i64 0],.string s,.int .i64 0] w fun e w'=>e = .returned (.tuple #[]) ∧
  ∃ v l,Blk w' b [.pointer (some ⟨b,0,none⟩),v,l,.int .i64 0] 101∧Row w' 5 1 v s.size (Lib.strCells s)∧Row w' 26 9 l 1 [.string N,.int .i64 0,.int .u32 (C:Nat),.int .i64 1,.int .i64 1,.int .i64 1,.int .i64 0,.int .u32 2162688,.int .i64 0]∧Upd (b::(Value.slice ba 0 bc).ownBlock.toList) w w'∧Later w (.slice ba 0 bc) v:=by
 obtain ⟨i0,hi,hz0,hz1,hz2⟩:=info_parts zdB;have HMV:=Hi (fun z=>zcD ⟨N,0,C,1,1,1,0,2162688,0⟩ 0 z);unfold RecD.to RecD.v at HMV;dsimp only at HMV;have hbn:(Value.slice ba 0 bc).ownBlock≠some b:=JR hR hB (by decide);have HB:=Hi (hB.alloc (.cells #[.string N,.int .i64 0,.int .u32 (C:Nat),.int .i64 1,.int .i64 1,.int .i64 1,.int .i64 0,.int .u32 2162688,.int .i64 0] 26));have HG:=Hi (Blk.new w [.string N,.int .i64 0,.int .u32 (C:Nat),.int .i64 1,.int .i64 1,.int .i64 1,.int .i64 0,.int .u32 2162688,.int .i64 0] 26);have HR:=Hi (hR.alloc (.cells #[.string N,.int .i64 0,.int .u32 (C:Nat),.int .i64 1,.int .i64 1,.int .i64 1,.int .i64 0,.int .u32 2162688,.int .i64 0] 26));have HU:=Hi ((Upd.refl [] w).alloc (.cells #[.string N,.int .i64 0,.int .u32 (C:Nat),.int .i64 1,.int .i64 1,.int .i64 1,.int .i64 0,.int .u32 2162688,.int .i64 0] 26));have hlt:=hB.lt;have HLT:=Hi hR.lt;clear hB hR;go_enter Tryz.func49,Tryz.ntmps49;go_upto_region 1 with fail
 change Code.wp _ _ _ _ (w.alloc (.cells #[.string N,.int .i64 0,.int .u32 (C:Nat),.int .i64 1,.int .i64 1,.int .i64 1,.int .i64 0,.int .u32 2162688,.int .i64 0] 26));generalize w.alloc (.cells #[.string N,.int .i64 0,.int .u32 (C:Nat),.int .i64 1,.int .i64 1,.int .i64 1,.int .i64 0,.int .u32 2162688,.int .i64 0] 26)=w1 at *;generalize hg:w.heap.size=g at *;have HWG:=Hi (show w.heap.size≤g by omega);clear hg;have cA:=HB.out.all;have fA:=HB.out.frz;go_upto_region 3 with fail
 have HB:=Hi (HB.out.set 3 (.int .i64 0));have HG:=Hi (HG.out.setFar (a:=⟨b,3,none⟩) (.int .i64 0) (by simp; omega));have HR:=Hi (HR.out.setFar (a:=⟨b,3,none⟩) (.int .i64 0) hbn);have HU:Hid (Upd [b] w _):=Hi ((HU.out.mono (fp':=[b]) (fun k hk=>by cases hk)).setCell (p:=⟨b,3,none⟩) (.inl (by simp)) (.int .i64 0));clear cA fA;generalize w1.setCell ⟨b,3,none⟩ (.int .i64 0)=w2 at *;refine wp_region_held_drew (S:=fun w'=>Blk w' g [.string N,.int .i64 0,.int .u32 (C:Nat),.int .i64 1,.int .i64 1,.int .i64 1,.int .i64 0,.int .u32 2162688,.int .i64 0] 26) (by kernel_rfl) HG.out.drew (fun hHeld=>hdN ?_);refine hdT 0 (some 17) ?_; refine hdT 1 (some 18) ?_; refine hdT 2 (some 19) ?_; refine hdT 3 (some 20) ?_;refine hdT 5 (some 22) ?_ (hy:=by intro w0 hSw; have qA:=hSw.all; go_simp; try with_reducible rfl); refine hdT 6 (some 23) ?_;refine hdT 7 (some 24) ?_; refine hdT 8 (some 25) ?_;refine wpAnyH_ready (rs:=[4,9]) (by kernel_rfl) (by simp) ?_;refine AllReadyH.cons rfl (fun K hK=>?_) (AllReadyH.cons rfl (fun K hK=>?_) AllReadyH.nil)
 focus
  have q0:=HB.out.drew.cell 2 rfl;go_simp;go_wp2;refine hK.out _ _ hHeld (fun hHeld=>hdN ?_);clear hK K;refine hdO 9 (fun K hK=>?_);go_simp;refine (Vl b _ _ _ _ _ _ _ HB.out.drew).mono ?_;rintro e z8 ⟨rfl,hz8⟩;subst hz8;go_wp2;refine hK.out _ _ hHeld (fun hHeld=>hdN ?_);clear hK K;refine hdO 10 (fun K hK=>?_);go_simp;refine (HMV.out _).mono ?_;rintro e z9 ⟨rfl,hz9⟩;go_wp2;refine hK.out _ _ (hHeld.upd hz9 (by simp)) (fun hHeld=>hdN ?_);clear hK K;refine hdO 11 (fun K hK=>?_);go_simp;go_wp2;refine hK.out _ _ (hHeld.alloc _) (fun hHeld=>hdN ?_);clear hK K
 rotate_left
 focus
  go_simp;refine (Vl b _ _ _ _ _ _ _ HB.out.drew).mono ?_;rintro e z8 ⟨rfl,hz8⟩;subst hz8;go_wp2;refine hK.out _ _ hHeld (fun hHeld=>hdN ?_);clear hK K;refine wpAnyH_ready (rs:=[4,10]) (by kernel_rfl) (by simp) ?_;refine AllReadyH.cons rfl (fun K hK=>?_) (AllReadyH.cons rfl (fun K hK=>?_) AllReadyH.nil)
 focus
  have q0:=HB.out.drew.cell 2 rfl;go_simp;go_wp2;refine hK.out _ _ hHeld (fun hHeld=>hdN ?_);clear hK K;refine hdO 10 (fun K hK=>?_);go_simp;refine (HMV.out _).mono ?_;rintro e z9 ⟨rfl,hz9⟩;go_wp2;refine hK.out _ _ (hHeld.upd hz9 (by simp)) (fun hHeld=>hdN ?_);clear hK K;refine hdO 11 (fun K hK=>?_);go_simp;go_wp2;refine hK.out _ _ (hHeld.alloc _) (fun hHeld=>hdN ?_);clear hK K
 rotate_left
 focus
  go_simp;refine (HMV.out _).mono ?_;rintro e z9 ⟨rfl,hz9⟩;go_wp2;refine hK.out _ _ (hHeld.upd hz9 (by simp)) (fun hHeld=>hdN ?_);clear hK K;refine wpAnyH_ready (rs:=[4,11]) (by kernel_rfl) (by simp) ?_;refine AllReadyH.cons rfl (fun K hK=>?_) (AllReadyH.cons rfl (fun K hK=>?_) AllReadyH.nil)
 focus
  have q0:=(HB.out.drew.upd hz9 (by simp)).cell 2 rfl;go_simp;go_wp2;refine hK.out _ _ hHeld (fun hHeld=>hdN ?_);clear hK K;refine hdO 11 (fun K hK=>?_);go_simp;go_wp2;refine hK.out _ _ (hHeld.alloc _) (fun hHeld=>hdN ?_);clear hK K
 rotate_left
 focus
  go_simp;go_wp2;refine hK.out _ _ (hHeld.alloc _) (fun hHeld=>hdN ?_);clear hK K;refine hdO 4 (fun K hK=>?_);have q0:=((HB.out.drew.upd hz9 (by simp)).alloc (.cells #[.string N,.int .i64 0,.int .u32 (C:Nat),.int .i64 1,.int .i64 1,.int .i64 1,.int .i64 0,.int .u32 2162688,.int .i64 0] 26)).cell 2 rfl;go_simp;go_wp2;refine hK.out _ _ hHeld (fun hHeld=>hdN ?_);clear hK K
 all_goals
  refine hdO 12 (fun K hK=>?_);refine qu _ rfl _ _ 22 rfl 26 i0 _ 9 80 Tryz.underlying22 hi hz0 hz1 hz2 rfl (by omega) (.slice none 0 0) 0 _ rfl (Row.nil _ _ _) ⟨z9.heap.size,0,none⟩ 1 1 [.string N,.int .i64 0,.int .u32 (C:Nat),.int .i64 1,.int .i64 1,.int .i64 1,.int .i64 0,.int .u32 2162688,.int .i64 0] rfl rfl (World.news_of_block (cs := #[.string N,.int .i64 0,.int .u32 (C:Nat),.int .i64 1,.int .i64 1,.int .i64 1,.int .i64 0,.int .u32 2162688,.int .i64 0]) (t:=26) (fr:=(0,0)) (heap_alloc_new _ _)) (by simp [Value.oneCell']) (by unfold maxLen; omega) (by omega) ?_;intro v9 w9 hR9 hU9 hT9;obtain ⟨va9,vc9,rfl⟩:=hR9.form;have hu9:Upd [] w2.drew w9:=(hz9.alloc _).then hU9;have HB9:=Hi (HB.out.drew.upd hu9 (by simp));have HR9:=Hi hR9;go_wp2;refine hK.out _ _ (hHeld.upd (show Upd [] _ w9 from hU9) (by simp)) (fun hHeld=>hdN ?_);clear hK K;refine hdT 13 (some 30) ?_; refine hdT 14 (some 31) ?_;refine hdO 15 (fun K hK=>?_);have q2:=HB9.out.cell 2 rfl;have f2:=HB9.out.frz 2;go_simp;go_wp2;refine hK.out _ _ (hHeld.setFar _ (by simp; omega)) (fun hHeld=>hdN ?_);clear hK K;refine wpAnyH_done (by kernel_rfl) ?_ 0;have HBs:=Hi (HB9.out.set 2 (.slice va9 1 vc9));have hv9:(Value.slice va9 1 vc9).ownBlock≠some b:=JR HR9.out HB9.out (by decide);have HRs:=Hi ((HR.out.drew.upd hu9 (by simp)).setFar (a:=⟨b,2,none⟩) (.slice va9 1 vc9) hbn);have HLs:=Hi (HR9.out.setFar (a:=⟨b,2,none⟩) (.slice va9 1 vc9) hv9);have HUs:=Hi ((HU.out.drew.trans hu9 (by simp)).setCell (p:=⟨b,2,none⟩) (.inl (by simp)) (.slice va9 1 vc9));clear hHeld q0 q2 f2 HB9 HR9;generalize w9.setCell ⟨b,2,none⟩ (.slice va9 1 vc9)=wS at *;go_wp2_with fail
  refine (ZM b p (.slice ba 0 bc) (.slice va9 1 vc9) (.int .i64 0) 0 [] s wS HBs.out hp HRs.out hbn (by omega)).mono ?_;rintro e wE ⟨rfl,vE,hBE,hRE,hUE,hTE⟩;have hlE:Row wE 26 9 (.slice va9 1 vc9) 1 [.string N,.int .i64 0,.int .u32 (C:Nat),.int .i64 1,.int .i64 1,.int .i64 1,.int .i64 0,.int .u32 2162688,.int .i64 0]:=HLs.out.upd hUE (fun k hk hm=>(List.mem_cons.1 hm).elim (fun e=>hv9 (by rw [← e]; exact hk)) (fun hm=>zgB HLs.out HRs.out hk (by simpa using hm) (by decide)));have HE:=Hi (And.intro hBE (And.intro hRE (And.intro hlE (And.intro ((HUs.out.mono (fp':=b::(Value.slice ba 0 bc).ownBlock.toList) (fun k hk => .inl (by simp at hk; simp [hk]))).trans hUE (fun k hk => .inl hk)) (show Later w (.slice ba 0 bc) vE from hTE.imp id (fun ⟨g,h1,h2⟩=>⟨g,h1,Nat.le_trans HUs.out.size h2⟩))))));clear hBE hRE hlE hUE hTE;go_wp2;go_returns;exact ⟨rfl,vE,_,HE.out.1,by simpa using HE.out.2.1,HE.out.2.2.1,HE.out.2.2.2.1,HE.out.2.2.2.2⟩
theorem ze8 (c:Nat) (w:World) (hc:Blk w c [.slice none 0 0] 158) :
 SeqN (α:=Empty) Tryz.prog 216 #[.pointer (some ⟨c,0,none⟩)] (fun x=>x.elim) [] [c] (fun _=>True) (fun _=>False) (fun _ _=>False) w:=by
 intro l J Jx W hU hz hJ hJx hY h0;have cA:=(hc.upd hU (by simp)).all;have HJ0:=Hi h0;clear hJ hY h0 hJx hU hz hc;refine callsIn_of_wp Tryz.func216 rfl trivial ?_ rfl;simp only [Tryz.ntmps216,List.size_toArray,List.length_cons,List.length_nil,Nat.reduceAdd,Nat.reduceSub,Array.replicate_succ,Array.replicate_zero,List.push_toArray,List.append_toArray,List.nil_append,List.cons_append]
 gi_wp2
 gi_loopg [7] 1 (fun gg s7 wr=>gg=1∧s7 = .int .i64 0∧wr=W)
 case atStart=>exact ⟨rfl,rfl,rfl⟩
 case round =>
  obtain ⟨rfl,rfl,rfl⟩:=hrel
  gi_wp2
  go_end0
  exact ⟨⟨_,rfl⟩,.inl ⟨[],trivial,HJ0.out⟩⟩
def TreeE (w:World) (t:Nat):Prop := ∃ m,Blk w t [.pointer (some ⟨m,0,none⟩)] 113∧Blk w m [.func (.func 39) #[] #[],.slice none 0 0] 160
theorem TreeE.upd {w w':World} {t:Nat} (h:TreeE w t) (hu:Upd [] w w'):TreeE w' t:=by
 obtain ⟨m,h1,h2⟩:=h;exact ⟨m,h1.upd hu (by simp),h2.upd hu (by simp)⟩
theorem zhu (w:World):Calls Tryz.prog 53 #[.func (.func 39) #[] #[]] w fun e w'=>e = .returned (.pointer (some ⟨w.heap.size,0,none⟩))∧w'=w.alloc (.cells #[.func (.func 39) #[] #[],.slice none 0 0] 160):=by
 have hfn : ∀ w,(binOp .eql 78 (.func (.func 39) #[] #[]) .nilFunc).run Tryz.prog w = .ok (.bool false) w:=fun w=>by rfl
 go_enter Tryz.func53,Tryz.ntmps53;go_wp2;go_returns;exact ⟨rfl,rfl⟩
theorem za2 (w:World):Calls Tryz.prog 20 #[] w fun e w' => ∃ t,e = .returned (.pointer (some ⟨t,0,none⟩))∧TreeE w' t∧Upd [] w w':=by
 go_enter Tryz.func20,Tryz.ntmps20;go_wp2_with fail
 refine (zhu _).mono ?_;rintro e w1 ⟨rfl,hw1⟩;have hB:Blk w1 w.heap.size [.func (.func 39) #[] #[],.slice none 0 0] 160:=by rw [hw1]; exact Blk.new w _ _
 have hU:Upd [] w w1:=by rw [hw1]; exact (Upd.refl [] w).alloc _
 have HP:Hid (TreeE (w1.alloc (.cells #[.pointer (some ⟨w.heap.size,0,none⟩)] 113)) w1.heap.size∧Upd [] w (w1.alloc (.cells #[.pointer (some ⟨w.heap.size,0,none⟩)] 113))):=Hi ⟨⟨_,Blk.new w1 _ _,hB.alloc _⟩,hU.alloc _⟩;clear hw1 hB hU;go_wp2;go_returns;exact ⟨_,rfl,HP.out.1,HP.out.2⟩
theorem zf2 (w:World):Calls Tryz.prog 156 #[.slice none 0 0] w fun e w'=>e = .returned (.func (.func 216) #[] #[.pointer (some ⟨w.heap.size,0,none⟩)])∧w'=w.alloc (.cells #[.slice none 0 0] 158):=by
 go_enter Tryz.func156,Tryz.ntmps156;go_wp2;go_returns;exact ⟨by simp,rfl⟩
theorem zcG (m:Nat) (f:Value) (w:World) (h:Blk w m [f,.slice none 0 0] 160):Calls Tryz.prog 90 #[.pointer (some ⟨m,0,none⟩)] w fun e w'=>e = .returned (.func (.func 216) #[] #[.pointer (some ⟨w.heap.size,0,none⟩)])∧w'=w.alloc (.cells #[.slice none 0 0] 158):=by
 have cA:=h.all;go_enter Tryz.func90,Tryz.ntmps90;go_wp2_with fail
 refine (zf2 _).mono ?_;rintro e w1 ⟨rfl,rfl⟩;go_wp2;go_returns;exact ⟨rfl,rfl⟩
theorem zbC (t:Nat) (w:World) (h:TreeE w t):Calls Tryz.prog 47 #[.pointer (some ⟨t,0,none⟩)] w fun e w'=>e = .returned (.func (.func 216) #[] #[.pointer (some ⟨w.heap.size,0,none⟩)])∧w'=w.alloc (.cells #[.slice none 0 0] 158):=by
 obtain ⟨m,h1,h2⟩:=h;have HM:=Hi h2;have cA:=h1.all;clear h2;go_enter Tryz.func47,Tryz.ntmps47;go_wp2_with fail
 refine (zcG m _ _ HM.out).mono ?_;rintro e w1 ⟨rfl,rfl⟩;go_wp2;go_returns;exact ⟨rfl,rfl⟩
end Go.Proofs.YtfkenhihcmmgkaaGreatDoor
