/- Package lz: Match at a text of one byte: its walk. -/
import Derived.Test.YtfkenhihcmmgkaaGreatDoorQBJ
set_option linter.unusedVariables false
set_option linter.unusedSimpArgs false
set_option linter.unusedSectionVars false
set_option maxRecDepth 100000
set_option maxHeartbeats 12800000
namespace Go.Proofs.YtfkenhihcmmgkaaGreatDoor
open Go.RowKit
theorem zjp {P:Program} {g:Operand} {ps:Array Tmp} {assign body:Code} {Q:Exit→Act→World→Prop} {a:Act} {w:World} {gf:Nat} {lb:Array Value} (hg:a.eval g = .func (.func gf) #[] lb) (eg : ∀ args w,(callFunc gf args).run P w = .ok (.enter gf args) w)
 {ks:List Nat} (hseq:SeqN (α:=Empty) P gf lb (fun x=>x.elim) [] ks (fun _=>True) (fun _=>False) (fun _ _=>False) w) (hks : ∀ k∈ks,k≠w.heap.size+1)
 (I:World→Prop) (hI:OwnFrom w.heap.size (fun (_:List Empty) W=>I W)) (hIw : ∀ A B,I A→Own2 [] A B→I B) (h0:I w)
 (hdone : ∀ (D:Nat) (W:World),w.heap.size≤D→I W→W.heap[D]? =some (.deferred (some []))→Q .normal { a with defers := { target := .collected D,args := #[] }::a.defers } W) :
 (Code.rangeFunc g ps assign body).wpIn Fence.wide 9 P Q a w :=
 zcf hg eg hseq hks (fun x=>x.elim) (fun _ W=>I W) (fun _ _ _=>False) (fun x=>x.elim) hI (fun c=>fun _ _ _ _ h _ _=>h) (fun _ A B h hu=>hIw A B h hu) (fun _ _ _ _ h _=>h) h0
  (fun _ x=>x.elim) (fun _ _ x=>x.elim) (fun D xs W hD _ h hK=>hdone D W hD h hK) (fun _ _ _ _ _ h _ _=>h.elim)
theorem KR (S:ByteArray) (hS:S.size=1) (fb bi bf:Nat) (x y D:Value) (w:World) (hR:Blk w fb [.string S,x,y,D] 285) (hbi:Blk w bi [.int .i64 0] 3) (hbf:Blk w bf [.pointer (some ⟨fb,0,none⟩)] 282) :
 SeqN (α:=Empty) Tryz.prog 304 #[.pointer (some ⟨bi,0,none⟩),.pointer (some ⟨bf,0,none⟩)] (fun x=>x.elim) [] [bi,bf,fb] (fun _=>True) (fun _=>False) (fun _ _=>False) w:=by
 intro l J Jx W hU hz hJ hJx hY h0;have c0:=(hR.upd hU (by simp)).all;have ci:=(hbi.upd hU (by simp)).all;have cf:=(hbf.upd hU (by simp)).all;have HJ:=Hi (fun s (A B:World) (h:J s A) (hu:Upd [] A B)=>hJ s A B h (Wn (fq:=[]) hu (fun k hk=>hk) (fun k hk=>by simp at hk)));have HJ0:=Hi h0;clear hJ hY h0 hJx hU hz hR hbi hbf;refine callsIn_of_wp Tryz.func304 rfl trivial ?_ rfl;simp only [Tryz.ntmps304,List.size_toArray,List.length_cons,List.length_nil,Nat.reduceAdd,Nat.reduceSub,Array.replicate_succ,Array.replicate_zero,List.push_toArray,List.append_toArray,List.nil_append,List.cons_append];have hSz:(S.size:Int)=1:=by omega
 gi_wp2_with fail
 gi_quiet (fail)
 have HJq:=Hi (HJ.out _ _ _ HJ0.out ((Upd.refl [] W).drewN nq));generalize W.drewN nq=w4 at *
 gi_wp2
 refine bodyPost_ret (results_none rfl _ _ _) rfl ?_;exact ⟨⟨_,rfl⟩,.inl ⟨[],trivial,HJq.out⟩⟩
theorem zc1 (S:ByteArray) (hS:S.size=1) (fb:Nat) (x y D:Value) (w:World) (hF:Blk w fb [.string S,x,y,D] 285) :
 Calls Tryz.prog 225 #[.pointer (some ⟨fb,0,none⟩),.int .i64 0] w fun e w'=>e = .returned (.agg #[.int .u8 0,.int .i64 0,.int .i64 0])∧Upd [] w w':=by
 have HF:=Hi hF;have HLT:=Hi hF.lt;clear hF;refine (callsIn_wide (n:=9)).1 ?_;refine callsIn_of_wp_marks Tryz.func225 rfl trivial ?_ rfl;simp only [Tryz.ntmps225,List.size_toArray,List.length_cons,List.length_nil,Nat.reduceAdd,Nat.reduceSub,Array.replicate_succ,Array.replicate_zero,List.push_toArray,List.append_toArray,List.nil_append,List.cons_append];refine wpIn_wide.2 ?_
 let QQ:Exit→Act→World→Prop:=bodyPost Tryz.prog Tryz.f225 (fun _ _=>True)
 go_wp2_with fail
 have hBt:Blk (((w.alloc (.cells #[.pointer (some ⟨fb,0,none⟩)] 282)).alloc (.cells #[.int .i64 0] 3)).alloc (.cells #[.int .u8 0,.int .i64 0,.int .i64 0] 287)) (w.heap.size+1+1) [.int .u8 0,.int .i64 0,.int .i64 0] 287:=by
  have h:=Blk.new ((w.alloc (.cells #[.pointer (some ⟨fb,0,none⟩)] 282)).alloc (.cells #[.int .i64 0] 3)) [.int .u8 0,.int .i64 0,.int .i64 0] 287;simpa using h
 have hU1:Upd [] w (((w.alloc (.cells #[.pointer (some ⟨fb,0,none⟩)] 282)).alloc (.cells #[.int .i64 0] 3)).alloc (.cells #[.int .u8 0,.int .i64 0,.int .i64 0] 287)):=((((Upd.refl [] w).alloc _).alloc _).alloc _);have hz1:(((w.alloc (.cells #[.pointer (some ⟨fb,0,none⟩)] 282)).alloc (.cells #[.int .i64 0] 3)).alloc (.cells #[.int .u8 0,.int .i64 0,.int .i64 0] 287)).heap.size=w.heap.size+3:=by simp
 change Calls _ _ _ (((w.alloc (.cells #[.pointer (some ⟨fb,0,none⟩)] 282)).alloc (.cells #[.int .i64 0] 3)).alloc (.cells #[.int .u8 0,.int .i64 0,.int .i64 0] 287)) _;generalize (((w.alloc (.cells #[.pointer (some ⟨fb,0,none⟩)] 282)).alloc (.cells #[.int .i64 0] 3)).alloc (.cells #[.int .u8 0,.int .i64 0,.int .i64 0] 287))=w1 at *;obtain ⟨tb,htb⟩ : ∃ tb,w.heap.size+1+1=tb:=⟨_,rfl⟩;rw [htb] at hBt ⊢;refine (KJ fb 0 w1).mono ?_;rintro e w4 ⟨rfl,hw4⟩;obtain ⟨bf,hbf⟩ : ∃ bf,w1.heap.size=bf:=⟨_,rfl⟩;obtain ⟨bi,hbi⟩ : ∃ bi,w1.heap.size+1=bi:=⟨_,rfl⟩;have hU4:Upd [] w1 w4:=by rw [hw4]; exact ((Upd.refl _ _).alloc _).alloc _
 have hBf:Blk w4 bf [.pointer (some ⟨fb,0,none⟩)] 282:=by rw [hw4,← hbf]; exact (Blk.new w1 [.pointer (some ⟨fb,0,none⟩)] _).alloc _
 have hBi:Blk w4 bi [.int .i64 0] 3:=by
  rw [hw4,← hbi];have h:=Blk.new (w1.alloc (.cells #[.pointer (some ⟨fb,0,none⟩)] 282)) [.int .i64 0] 3;simpa using h
 have hz4:w4.heap.size=w1.heap.size+2:=by rw [hw4]; simp
 rw [hbi,hbf];have HSQ:=Hi (KR S hS fb bi bf x y D w4 ((HF.out.upd hU1 (by simp)).upd hU4 (by simp)) hBi hBf);have HI:=Hi (And.intro (hBt.upd hU4 (by simp)) (hU1.then hU4));have HSZ:Hid (w.heap.size≤tb∧tb<w4.heap.size∧w.heap.size≤w4.heap.size):=Hi (by omega);have hks:Hid (∀ k∈[bi,bf,fb],k≠w4.heap.size+1):=Hi (by
  have h2:=HLT.out;intro k hk;simp only [List.mem_cons,List.not_mem_nil,or_false] at hk;rcases hk with rfl | rfl | rfl<;>omega)
 clear hw4 hU4 hBf hBi hz4 hBt hU1 hz1 htb hbf hbi HF;go_wp2_with fail
 refine zdC ?_;intro fr hfr;refine Code.wp_mono (Q:=fun e a' W=>e = .normal ∧ ∃ DD,a' = { fr with defers := { target := .collected DD,args := #[] }::fr.defers }∧w4.heap.size≤DD∧W.heap[DD]? =some (.deferred (some []))∧Blk W tb [.int .u8 0,.int .i64 0,.int .i64 0] 287∧Upd [] w W) ?cont ((wpIn_wide (n:=9)).1 ?main)
 case main =>
  refine zjp (gf:=304) (lb := #[.pointer (some ⟨bi,0,none⟩),.pointer (some ⟨bf,0,none⟩)]) (by rw [hfr]; rfl) (enters_of Tryz.func304 (by kernel_rfl) rfl)
   HSQ.out hks.out (fun W=>Blk W tb [.int .u8 0,.int .i64 0,.int .i64 0] 287∧Upd [] w W)
   (fun p X C row hs hgr hr=>⟨zF _ tb (fun (_:Unit)=>_) _ () X C row hs.1 hgr hr,qa _ [] w HSZ.out.2.2 () X C row hs.2 hgr hr⟩)
   (fun A B h hu=>⟨h.1.upd hu.1 (by simp),h.2.then hu.1⟩) HI.out ?done
  case done =>
   rintro DD W hD hI hK;exact ⟨rfl,DD,rfl,hD,hK,hI⟩
 case cont =>
  rintro e a' wz ⟨rfl,DD,rfl,hD,hDk,h1,h5⟩;subst hfr;have HDk:=Hi hDk;have H1:=Hi h1;have H5:=Hi h5;have hDt:DD≠tb:=by have:=HSZ.out; omega
  have tA:=h1.all;have fA:=h1.frz;clear h1 h5 hDk;go_wp2;have hk9:(((wz.setCell ⟨tb,0,none⟩ (.int .u8 0)).setCell ⟨tb,1,none⟩ (.int .i64 0)).setCell ⟨tb,2,none⟩ (.int .i64 0)).heap[DD]? =some (.deferred (some [])):=(((Below.heap_setCell _ _ _ _ hDt).trans (Below.heap_setCell _ _ _ _ hDt)).trans (Below.heap_setCell _ _ _ _ hDt)).trans HDk.out;refine ⟨by simp,.inl ⟨_,_,rfl,run_takeDeferred hk9,?_⟩⟩;have hB8:=(((H1.out.set 0 (.int .u8 0)).set 1 (.int .i64 0)).set 2 (.int .i64 0));simp only [List.set_cons_zero,List.set_cons_succ] at hB8;have hB9:Blk ((((wz.setCell ⟨tb,0,none⟩ (.int .u8 0)).setCell ⟨tb,1,none⟩ (.int .i64 0)).setCell ⟨tb,2,none⟩ (.int .i64 0)).putObj DD (.deferred none)) tb [.int .u8 0,.int .i64 0,.int .i64 0] 287:=(World.putObj_heap_other (Ne.symm hDt)).trans hB8;have hU9:Upd [] w ((((wz.setCell ⟨tb,0,none⟩ (.int .u8 0)).setCell ⟨tb,1,none⟩ (.int .i64 0)).setCell ⟨tb,2,none⟩ (.int .i64 0)).putObj DD (.deferred none)):=(((H5.out.setCell (.inr HSZ.out.1) _).setCell (.inr HSZ.out.1) _).setCell (.inr HSZ.out.1) _).putObjZ (by have:=HSZ.out.2.2; omega) _;exact ⟨_,zbe rfl _ _ tb _ _ _ rfl hB9,rfl,hU9⟩
theorem zff (S:ByteArray) (hS:S.size=1) (fb:Nat) (x D:Value) (w:World) (hF:Blk w fb [.string S,x,.slice none 0 0,D] 285) :
 Calls Tryz.prog 226 #[.pointer (some ⟨fb,0,none⟩),.int .i64 0] w fun e w'=>e = .returned (.tuple #[])∧Upd [fb] w w':=by
 obtain ⟨i0,hi,jz0,jz1,jz2⟩:=info_parts qh;have hSz:(S.size:Int)=1:=by omega
 have HF:=Hi hF;have cA:=hF.all;have fA:=hF.frz;clear hF;go_enter Tryz.func226,Tryz.ntmps226;have HNW:Hid (∀ j u,([(.int .i64 (-1):Value)]:List Value)[j]? =some u→(w.alloc (.cells #[(.int .i64 (-1):Value)] 3)).cell? ((⟨w.heap.size,0,none⟩:Addr).add j)=some u):=Hi (World.news_of_block (cs := #[(.int .i64 (-1):Value)]) (t:=3) (fr:=(0,0)) (heap_alloc_new _ _));have HST:Hid (∀ v∈([(.int .i64 (-1):Value)]:List Value),v.oneCell'=true):=Hi (by simp [Value.oneCell']);go_wp2_with (at_builtin; refine zH _ rfl _ _ 57 rfl 3 i0 _ 1 8 Tryz.underlying57 hi jz0 jz1 jz2 rfl (by omega) (.slice none 0 0) 0 _ rfl (Row.nil _ _ _) ⟨w.heap.size,0,none⟩ 1 1 [(.int .i64 (-1):Value)] rfl rfl HNW.out HST.out (by unfold maxLen; omega) (by omega) ?_)
 intro v5 w5 hR5 hU5 hT5;obtain ⟨v5a,v5c,rfl⟩:=hR5.form;have hA:Upd [fb] w (w.alloc (.cells #[(.int .i64 (-1):Value)] 3)):=(Upd.refl [fb] w).alloc _;have hB6:=(HF.out.alloc (.cells #[(.int .i64 (-1):Value)] 3)).upd hU5 (by simp [Value.ownBlock]);have HP:=Hi ((hA.trans hU5 (fun k hk=>by simp [Value.ownBlock] at hk)).setCell (p:=⟨fb,2,none⟩) (.inl (by simp)) (.slice v5a 1 v5c));have kA:=hB6.all;have gA:=hB6.frz;clear hR5 hU5 hT5 HNW HST hB6 cA fA hA;go_wp2;go_returns;exact ⟨rfl,HP.out⟩
theorem zav (b:UInt8) (w:World) :
 Calls Tryz.prog 165 #[.string { data := #[b] },.int .i64 9] w fun e w' => ∃ g c,e = .returned (.slice (some ⟨g,0,none⟩) 1 c)∧Row w' 287 3 (.slice (some ⟨g,0,none⟩) 1 c) 1 [.int .u8 (b.toNat:Nat),.int .i64 0,.int .i64 0]∧Upd [] w w':=by
 have hmm:=@run_makeMap Tryz.prog;obtain ⟨i0,hi,jz0,jz1,jz2⟩:=info_parts zio;have hS:({ data := #[b] }:ByteArray).size=1:=rfl;have hmx:max (0:Int) 9=9:=by decide
 have hF0:Blk (((w.alloc (.map #[] 0)).alloc (.cells #[.string { data := #[b] },.map (some w.heap.size),.slice none 0 0,.int .i64 1024] 285)).alloc (.cells #[.int .u8 0,.int .i64 0,.int .i64 0] 287)) (w.heap.size+1) [.string { data := #[b] },.map (some w.heap.size),.slice none 0 0,.int .i64 1024] 285:=by
  have h:=(Blk.new (w.alloc (.map #[] 0)) [.string { data := #[b] },.map (some w.heap.size),.slice none 0 0,.int .i64 1024] 285).alloc (.cells #[.int .u8 0,.int .i64 0,.int .i64 0] 287);simpa using h
 have hN0:Blk (((w.alloc (.map #[] 0)).alloc (.cells #[.string { data := #[b] },.map (some w.heap.size),.slice none 0 0,.int .i64 1024] 285)).alloc (.cells #[.int .u8 0,.int .i64 0,.int .i64 0] 287)) (w.heap.size+1+1) [.int .u8 0,.int .i64 0,.int .i64 0] 287:=by
  have h:=Blk.new ((w.alloc (.map #[] 0)).alloc (.cells #[.string { data := #[b] },.map (some w.heap.size),.slice none 0 0,.int .i64 1024] 285)) [.int .u8 0,.int .i64 0,.int .i64 0] 287;simpa using h
 have hU1:Upd [] w (((w.alloc (.map #[] 0)).alloc (.cells #[.string { data := #[b] },.map (some w.heap.size),.slice none 0 0,.int .i64 1024] 285)).alloc (.cells #[.int .u8 0,.int .i64 0,.int .i64 0] 287)):=(((Upd.refl [] w).alloc _).alloc _).alloc _;go_enter Tryz.func165,Tryz.ntmps165;go_upto_region 6 with fail
 change Code.wp _ _ _ _ (((w.alloc (.map #[] 0)).alloc (.cells #[.string { data := #[b] },.map (some w.heap.size),.slice none 0 0,.int .i64 1024] 285)).alloc (.cells #[.int .u8 0,.int .i64 0,.int .i64 0] 287));generalize (((w.alloc (.map #[] 0)).alloc (.cells #[.string { data := #[b] },.map (some w.heap.size),.slice none 0 0,.int .i64 1024] 285)).alloc (.cells #[.int .u8 0,.int .i64 0,.int .i64 0] 287))=w1 at *;obtain ⟨fb,hfb⟩ : ∃ fb,w.heap.size+1=fb:=⟨_,rfl⟩;have hw0:w.heap.size≤fb:=by omega
 have hfl:=hF0.lt;have hwsz:=hU1.size;generalize w.heap.size+1+1=nb at *;rw [hfb] at hF0 hfl ⊢;have HF:=Hi hF0;have HN:=Hi hN0;have HU:=Hi hU1;clear hF0 hN0 hU1 hmm hmx hfb;clear hwsz;have hwsz:=HU.out.size;generalize hmb:w.heap.size=mb at *;go_wp2;go_loopg [4,7,8] 2 (fun gg s4 s7 s8 wr=>(gg=2∧s4 = .slice none 0 0∧s7 = .bool false∧s8 = .int .i64 0∧wr=w1)∨(gg=1 ∧ ∃ g c,s4 = .slice (some ⟨g,0,none⟩) 1 c∧s7 = .bool false∧s8 = .int .i64 1∧Hid (Row wr 287 3 (.slice (some ⟨g,0,none⟩) 1 c) 1 [.int .u8 (b.toNat:Nat),.int .i64 0,.int .i64 0]∧Upd [] w wr)))
 case atStart=>exact .inl ⟨rfl,rfl,rfl,rfl,rfl⟩
 case round =>
  rcases hrel with ⟨rfl,rfl,rfl,rfl,rfl⟩ | ⟨rfl,g,c,rfl,rfl,rfl,HR⟩;rotate_left
  · go_wp2;go_ret;exact ⟨_,_,rfl,HR.out.1,HR.out.2⟩
  have nA:=HN.out.all;have HT:=Hi (Blk.new wr [.int .u8 0,.int .i64 0,.int .i64 0] 287);have HF:=Hi (HF.out.alloc (.cells #[.int .u8 0,.int .i64 0,.int .i64 0] 287));have HU:=Hi (HU.out.alloc (.cells #[.int .u8 0,.int .i64 0,.int .i64 0] 287));have hft:fb≠wr.heap.size:=by omega
  have HTW:Hid (w.heap.size≤wr.heap.size):=Hi (by have:=hwsz; omega);go_upto_region 10 with fail
  change Code.wp _ _ _ _ (wr.alloc (.cells #[.int .u8 0,.int .i64 0,.int .i64 0] 287));clear nA HN;generalize wr.alloc (.cells #[.int .u8 0,.int .i64 0,.int .i64 0] 287)=w2 at *;generalize wr.heap.size=tb at *;go_wp2_with fail
  refine (zc1 _ hS fb _ _ _ _ HF.out).mono ?_;rintro e w3 ⟨rfl,hu⟩;have HF:=Hi (HF.out.upd hu (by simp));have HT:=Hi (HT.out.upd hu (by simp));have HU:=Hi (HU.out.then hu);have HTW:Hid (w.heap.size≤tb):=Hi HTW.out;clear hu;have tA:=HT.out.all;have gA:=HT.out.frz;have HF:=Hi (((HF.out.setFar (a:=⟨tb,0,none⟩) (.int .u8 0) hft).setFar (a:=⟨tb,1,none⟩) (.int .i64 0) hft).setFar (a:=⟨tb,2,none⟩) (.int .i64 0) hft);have HT:=Hi (((HT.out.set 0 (.int .u8 0)).set 1 (.int .i64 0)).set 2 (.int .i64 0));have HU:=Hi (((HU.out.setCell (p:=⟨tb,0,none⟩) (.inr HTW.out) (.int .u8 0)).setCell (p:=⟨tb,1,none⟩) (.inr HTW.out) (.int .i64 0)).setCell (p:=⟨tb,2,none⟩) (.inr HTW.out) (.int .i64 0));go_upto_region 12 with fail
  clear tA gA;generalize ((w3.setCell ⟨tb,0,none⟩ (.int .u8 0)).setCell ⟨tb,1,none⟩ (.int .i64 0)).setCell ⟨tb,2,none⟩ (.int .i64 0)=w4 at *;go_wp2_with fail
  refine (zff _ hS fb _ _ _ HF.out).mono ?_;rintro e w5 ⟨rfl,hu⟩;have HT:=Hi (HT.out.upd hu (by simp; omega));have HU:=Hi (HU.out.trans hu (fun k hk => .inr (by simp at hk; omega)));clear hu HF;have tA:=HT.out.all;have HNW:Hid (∀ j u,([(.int .u8 (b.toNat:Nat):Value),.int .i64 0,.int .i64 0]:List Value)[j]? =some u→(w5.alloc (.cells #[(.int .u8 (b.toNat:Nat):Value),.int .i64 0,.int .i64 0] 287)).cell? ((⟨w5.heap.size,0,none⟩:Addr).add j)=some u):=Hi (World.news_of_block (cs := #[(.int .u8 (b.toNat:Nat):Value),.int .i64 0,.int .i64 0]) (t:=287) (fr:=(0,0)) (heap_alloc_new _ _));have HST:Hid (∀ v∈([(.int .u8 (b.toNat:Nat):Value),.int .i64 0,.int .i64 0]:List Value),v.oneCell'=true):=Hi (by simp [Value.oneCell']);go_wp2_with (at_builtin; refine zH _ rfl _ _ 220 rfl 287 i0 _ 3 24 Tryz.underlying220 hi jz0 jz1 jz2 rfl (by omega) (.slice none 0 0) 0 _ rfl (Row.nil _ _ _) ⟨w5.heap.size,0,none⟩ 1 1 [(.int .u8 (b.toNat:Nat):Value),.int .i64 0,.int .i64 0] rfl rfl HNW.out HST.out (by unfold maxLen; omega) (by omega) ?_)
  intro v6 w6 hR6 hU6 hT6;obtain ⟨g,c,rfl,-,-⟩:=hR6.form' (by omega);have HR:=Hi (And.intro hR6 ((HU.out.alloc (.cells #[(.int .u8 (b.toNat:Nat):Value),.int .i64 0,.int .i64 0] 287)).then (hU6.mono (fun k hk=>by simp [Value.ownBlock] at hk))));clear hR6 hU6 hT6 HNW HST tA;go_wp2;go_roundg 1
  · exact .inr ⟨rfl,g,c,rfl,rfl,rfl,Hi HR.out⟩
  · omega
theorem Zs {fn:Func} {p t u:Tmp} (h:fn.results = #[.cell p 26,.tmp t,.tmp u]) (tmps:Array Value) (w:World) (g:Nat) (c0 c1 c2 c3 c4 c5 c6 c7 c8:Value) (hp:tmps.getD p undef = .pointer (some ⟨g,0,none⟩)) (hB:Blk w g [c0,c1,c2,c3,c4,c5,c6,c7,c8] 26) :
 (results fn tmps).run Tryz.prog w = .ok (.tuple #[.agg #[c0,c1,c2,c3,c4,c5,c6,c7,c8],tmps.getD t undef,tmps.getD u undef]) w:=by
 have hA:=hB.all;have hp2:tmps[p]?.getD undef = .pointer (some ⟨g,0,none⟩):=by rw [← hp]; simp
 simp [results,h,go_sem,hp2,hA]
def Ly (w0:World) (g:Nat) (k m:Int) (t:Nat) (D:ByteArray) (w:World):Prop:=w0.heap.size≤g∧Blk w g [.int .i64 k,.int .i64 m,.int .u32 (t:Nat),.string D] 82∧Blk w (g+1) [.string .empty,.int .i64 0,.int .u32 0,.int .i64 0,.int .i64 0,.int .i64 0,.int .i64 0,.int .u32 0,.int .i64 0] 26∧Upd [] w0 w
theorem Ly.upd {w0 w w':World} {g:Nat} {k m:Int} {t:Nat} {D:ByteArray} {fp:List Nat} (h:Ly w0 g k m t D w) (hu:Upd fp w w') (hf : ∀ j,j∈fp→g+1<j):Ly w0 g k m t D w' :=
 ⟨h.1,h.2.1.upd hu (fun hm=>by have:=hf _ hm; omega),h.2.2.1.upd hu (fun hm=>by have:=hf _ hm; omega),h.2.2.2.trans hu (fun j hj => .inr (by have:=hf j hj; have:=h.1; omega))⟩
theorem Ly.drew {w0 w:World} {g:Nat} {k m:Int} {t:Nat} {D:ByteArray} (h:Ly w0 g k m t D w):Ly w0 g k m t D w.drew:=h.upd ((Upd.refl [] w).drew) (by simp)
def LayP (p:ByteArray) (k m:Int) (t:Nat) (D:ByteArray) (r:RecD) (s:ByteArray):Prop :=
 (zdj p k m t D≠0→r=qJ∧s=⟨#[]⟩)∧(zdj p k m t D=0 → ∃ X,LaidE p k m t D r X∧s=zg (jY r)++X)
theorem LayP.bad {p:ByteArray} {k m:Int} {t:Nat} {D:ByteArray} {n:Nat} (h:zdj p k m t D=n) (hn:n≠0):LayP p k m t D qJ ⟨#[]⟩:=⟨fun _=>⟨rfl,rfl⟩,fun e=>absurd (h.symm.trans e) hn⟩
end Go.Proofs.YtfkenhihcmmgkaaGreatDoor
namespace Go.Proofs.YtfkenhihcmmgkaaGreatDoor
open Go.RowKit
attribute [local go_sem] Oper.semAt_some
theorem zgs (N D s:ByteArray) (C:Nat) (w:World) (hN : { data := #[46,115,119,105,110,103,108,101] }=N)
 (hL : ∀ z,Calls Tryz.prog 50 #[.string N,.agg #[.int .i64 1,.int .i64 0,.int .u32 2162688,.string D],.int .i64 9] z fun e w'=>e = .returned (.tuple #[.agg #[.string N,.int .i64 0,.int .u32 (C:Nat),.int .i64 1,.int .i64 1,.int .i64 1,.int .i64 0,.int .u32 2162688,.int .i64 0],.string s,.int .i64 0])∧Upd [] z w') :
 Calls Tryz.prog 51 #[.string D,.int .i64 9] w fun e w'=>e = .returned (.tuple #[.agg #[.string N,.int .i64 0,.int .u32 (C:Nat),.int .i64 1,.int .i64 1,.int .i64 1,.int .i64 0,.int .u32 2162688,.int .i64 0],.string s,.int .i64 0])∧Upd [] w w':=by
 have HQ:=Hi (Blk.new w [.string { data := #[] },.int .i64 0,.int .u32 0,.int .i64 0,.int .i64 0,.int .i64 0,.int .i64 0,.int .u32 0,.int .i64 0] 26);have HU:=Hi ((Upd.refl [] w).alloc (.cells #[.string { data := #[] },.int .i64 0,.int .u32 0,.int .i64 0,.int .i64 0,.int .i64 0,.int .i64 0,.int .u32 0,.int .i64 0] 26));have HL:=Hi hL;have HRS:=Hi (fun z=>qz z);rw [hN] at HRS;clear hL hN;go_enter Tryz.func51,Tryz.ntmps51;go_upto_region 1 with fail
 change Code.wp _ _ _ _ (w.alloc (.cells #[.string { data := #[] },.int .i64 0,.int .u32 0,.int .i64 0,.int .i64 0,.int .i64 0,.int .i64 0,.int .u32 0,.int .i64 0] 26));generalize w.alloc (.cells #[.string { data := #[] },.int .i64 0,.int .u32 0,.int .i64 0,.int .i64 0,.int .i64 0,.int .i64 0,.int .u32 0,.int .i64 0] 26)=w1 at *;generalize hg:w.heap.size=g at *;go_wp2_with fail
 refine (HRS.out _).mono ?_;rintro e w2 ⟨rfl,rfl⟩;go_wp2_with fail
 refine (HL.out _).mono ?_;rintro e w3 ⟨rfl,hu⟩;have HQ:=Hi (HQ.out.upd hu (by simp));have HU:=Hi (HU.out.then hu);clear hu;have cA:=HQ.out.all;have fA:=HQ.out.frz;go_wp2;(try simp only [Exit.inBlock,Exit.then]); refine bodyPost_ret (Zs rfl _ _ g _ _ _ _ _ _ _ _ _ rfl (Blk.set9 HQ.out _ _ _ _ _ _ _ _ _)) rfl ⟨rfl,Upd.set9 HU.out (.inr (by omega)) _ _ _ _ _ _ _ _ _⟩
theorem zhW {P:Program} {c:Code} {K:Act→World→Prop} {Q:Exit→Act→World→Prop} {a:Act} {w:World} (h:c.wp P (Exit.then K fun _ _ _=>False) a w):c.wp P (Exit.then K Q) a w :=
 Code.wp_mono (fun e a w h=>by cases e<;>first | exact h | exact h.elim) h
theorem zkc (b g c:Nat) (l why:Value) (s:ByteArray) (w:World) (h:Blk w b [.pointer (some ⟨b,0,none⟩),.slice (some ⟨g,0,none⟩) s.size c,l,why] 101) (hR:Row w 5 1 (.slice (some ⟨g,0,none⟩) s.size c) s.size (Lib.strCells s)) (h0:0<s.size) :
 Calls Tryz.prog 52 #[.pointer (some ⟨b,0,none⟩)] w fun e w'=>e = .returned (.string s)∧Upd [g] w w':=by
 have hz:=zi s;rw [vR,← hz] at hR;rw [← hz] at h h0;exact (KS b g c l why (zf s) w h hR (xf s) (fun e=>by rw [e] at h0; simp at h0)).mono (fun e w' h=>⟨by rw [h.1,zE],h.2⟩)
theorem zcz {fn:Func} {t u:Tmp} (h:fn.results = #[.tmp t,.tmp u]) (tmps:Array Value) (w:World):(results fn tmps).run Tryz.prog w = .ok (.tuple #[tmps.getD t undef,tmps.getD u undef]) w:=by
 simp [results,h,go_sem]
def BuI (w0:World) (b xb lb:Nat) (ba:Option Addr) (bc:Nat) (W:World):Prop:=Blk W b [.pointer (some ⟨b,0,none⟩),.slice ba 0 bc,.slice none 0 0,.int .i64 0] 101∧Row W 5 1 (.slice ba 0 bc) 0 []∧Blk W xb [.pointer (some ⟨b,0,none⟩)] 95∧Blk W lb [.int .i64 9] 3∧Upd [] w0 W
theorem BuI.upd {w0 w w':World} {b xb lb bc:Nat} {ba:Option Addr} (h:BuI w0 b xb lb ba bc w) (hu:Upd [] w w'):BuI w0 b xb lb ba bc w':=⟨h.1.upd hu (by simp),h.2.1.upd hu (by simp),h.2.2.1.upd hu (by simp),h.2.2.2.1.upd hu (by simp),h.2.2.2.2.then hu⟩
theorem BuI.own {w0:World} {b xb lb bc B:Nat} {ba:Option Addr} (hB:w0.heap.size≤B):OwnFrom B (fun (_:List Empty) W=>BuI w0 b xb lb ba bc W):=fun p X C row hs hgr hr =>
 ⟨zF B b (fun (_:Unit)=>_) _ () X C row hs.1 hgr hr,hs.2.1.ownF hgr hr,zF B xb (fun (_:Unit)=>_) _ () X C row hs.2.2.1 hgr hr,zF B lb (fun (_:Unit)=>_) _ () X C row hs.2.2.2.1 hgr hr,qa B [] w0 hB () X C row hs.2.2.2.2 hgr hr⟩
theorem zdf (t C:Nat) (N D s:ByteArray) (w:World) (hT:TreeE w t) (hs:0<s.size) (hs2:s.size≤1000000) (hft:RecD.Fits ⟨N,0,C,1,1,1,0,2162688,0⟩)
 (hH : ∀ z,Calls Tryz.prog 51 #[.string D,.int .i64 9] z fun e w'=>e = .returned (.tuple #[.agg #[.string N,.int .i64 0,.int .u32 (C:Nat),.int .i64 1,.int .i64 1,.int .i64 1,.int .i64 0,.int .u32 2162688,.int .i64 0],.string s,.int .i64 0])∧Upd [] z w') :
 Calls Tryz.prog 19 #[.string { data := #[] },.pointer (some ⟨t,0,none⟩),.string D,.int .i64 9] w fun e w'=>e = .returned (.tuple #[.string (s++(zg (xz [⟨N,0,C,1,1,1,0,2162688,0⟩])++zg (kF 1 (xz [⟨N,0,C,1,1,1,0,2162688,0⟩]).length s.size))),.int .i64 0])∧Upd [] w w':=by
 have HH:=Hi hH;have HDR:=Hi (fun (v:Value) (z:World) (h:Row z 26 9 v 1 [.string N,.int .i64 0,.int .u32 (C:Nat),.int .i64 1,.int .i64 1,.int .i64 1,.int .i64 0,.int .u32 2162688,.int .i64 0])=>zaC s [⟨N,0,C,1,1,1,0,2162688,0⟩] v z hs2 (Row.recsAt (l:=[⟨N,0,C,1,1,1,0,2162688,0⟩]) h) (fun q hq=>by rw [List.mem_singleton.1 hq]; exact hft) (by simp));have hdl:=Jh [⟨N,0,C,1,1,1,0,2162688,0⟩];have hdz:(zg (xz [⟨N,0,C,1,1,1,0,2162688,0⟩])++zg (kF 1 (xz [⟨N,0,C,1,1,1,0,2162688,0⟩]).length s.size)).size≤1000000:=by
  rw [ByteArray.size_append,zk,zk,Xy];simp only [List.length_cons,List.length_nil] at hdl;omega
 simp only [List.length_cons,List.length_nil,Nat.reduceAdd] at HDR;generalize (zg (xz [⟨N,0,C,1,1,1,0,2162688,0⟩])++zg (kF 1 (xz [⟨N,0,C,1,1,1,0,2162688,0⟩]).length s.size))=DR at *;have HAD:=Hi (fun w=>run_string_add_sum (P:=Tryz.prog) w s DR (by omega));have W0:Hid (Blk (((w.alloc (.cells #[.int .i64 9] 3)).alloc (.cells #[.pointer none,.slice none 0 0,.slice none 0 0,.int .i64 0] 101)).alloc (.cells #[.pointer (some ⟨w.heap.size+1,0,none⟩)] 95)) w.heap.size [.int .i64 9] 3∧Blk (((w.alloc (.cells #[.int .i64 9] 3)).alloc (.cells #[.pointer none,.slice none 0 0,.slice none 0 0,.int .i64 0] 101)).alloc (.cells #[.pointer (some ⟨w.heap.size+1,0,none⟩)] 95)) (w.heap.size+1) [.pointer none,.slice none 0 0,.slice none 0 0,.int .i64 0] 101 ∧
  Blk (((w.alloc (.cells #[.int .i64 9] 3)).alloc (.cells #[.pointer none,.slice none 0 0,.slice none 0 0,.int .i64 0] 101)).alloc (.cells #[.pointer (some ⟨w.heap.size+1,0,none⟩)] 95)) (w.heap.size+1+1) [.pointer (some ⟨w.heap.size+1,0,none⟩)] 95∧Upd [] w (((w.alloc (.cells #[.int .i64 9] 3)).alloc (.cells #[.pointer none,.slice none 0 0,.slice none 0 0,.int .i64 0] 101)).alloc (.cells #[.pointer (some ⟨w.heap.size+1,0,none⟩)] 95))):=Hi (by
  refine ⟨((Blk.new w _ _).alloc _).alloc _,?_,?_,(((Upd.refl [] w).alloc _).alloc _).alloc _⟩
  · simpa using (Blk.new (w.alloc (.cells #[.int .i64 9] 3)) [.pointer none,.slice none 0 0,.slice none 0 0,.int .i64 0] 101).alloc (.cells #[.pointer (some ⟨w.heap.size+1,0,none⟩)] 95)
  · simpa using Blk.new ((w.alloc (.cells #[.int .i64 9] 3)).alloc (.cells #[.pointer none,.slice none 0 0,.slice none 0 0,.int .i64 0] 101)) [.pointer (some ⟨w.heap.size+1,0,none⟩)] 95)
 clear hH hft hdl;refine (callsIn_wide (n:=9)).1 ?_;refine callsIn_of_wp_marks Tryz.func19 rfl trivial ?_ rfl;simp only [Tryz.ntmps19,List.size_toArray,List.length_cons,List.length_nil,Nat.reduceAdd,Nat.reduceSub,Array.replicate_succ,Array.replicate_zero,List.push_toArray,List.append_toArray,List.nil_append,List.cons_append];refine wpIn_wide.2 ?_
 let QQ:Exit→Act→World→Prop:=bodyPost Tryz.prog Tryz.f19 (fun _ _=>True)
 go_upto_region 2 with fail
 change Code.wp _ _ _ _ (((w.alloc (.cells #[.int .i64 9] 3)).alloc (.cells #[.pointer none,.slice none 0 0,.slice none 0 0,.int .i64 0] 101)).alloc (.cells #[.pointer (some ⟨w.heap.size+1,0,none⟩)] 95));have HTT:=Hi hT;clear hT;generalize (((w.alloc (.cells #[.int .i64 9] 3)).alloc (.cells #[.pointer none,.slice none 0 0,.slice none 0 0,.int .i64 0] 101)).alloc (.cells #[.pointer (some ⟨w.heap.size+1,0,none⟩)] 95))=w1 at *;obtain ⟨lb,hlb⟩ : ∃ x,w.heap.size=x:=⟨_,rfl⟩;obtain ⟨b,hbb⟩ : ∃ x,w.heap.size+1=x:=⟨_,rfl⟩;obtain ⟨xb,hxb⟩ : ∃ x,w.heap.size+1+1=x:=⟨_,rfl⟩;rw [hxb,hbb,hlb] at W0;try rw [hxb]
 try rw [hbb]
 try rw [hlb]
 have HNM:=Hi (show w.heap.size=lb∧b=lb+1∧xb=lb+2 by omega);clear hlb hbb hxb;have x0:=W0.out.2.2.1.cell 0 rfl;go_wp2_with fail
 refine (ZM b none (.slice none 0 0) (.slice none 0 0) (.int .i64 0) 0 [] { data := #[] } w1 W0.out.2.1 (.inl rfl) (Row.nil _ _ _) (by simp [Value.ownBlock]) (by decide)).mono ?_;rintro e w2 ⟨rfl,v,hB,hR,hU,hT2⟩;have hR0:Row w2 5 1 v 0 []:=hR;obtain ⟨ba,bc,rfl⟩:=hR0.form;have hU:Upd [b] w1 w2:=hU;have HOW:Hid (∀ k,(Value.slice ba 0 bc).ownBlock=some k→w.heap.size≤k):=Hi (fun k hk=>by
  rcases hT2 with h | ⟨g,h1,h2⟩
  · rw [h] at hk; cases hk
  · rw [hk] at h1; cases h1; exact Nat.le_trans W0.out.2.2.2.size h2)
 have I2:Hid (BuI w b xb lb ba bc w2):=Hi ⟨hB,hR0,W0.out.2.2.1.upd hU (by simp; have:=HNM.out; omega),W0.out.1.upd hU (by simp; have:=HNM.out; omega),W0.out.2.2.2.trans hU (fun k hk => .inr (by simp at hk; have:=HNM.out; omega))⟩;clear hB hR hR0 hU x0 W0 hT2;go_wp2_with fail
 refine (zbC t w2 (HTT.out.upd I2.out.2.2.2.2)).mono ?_;rintro e w3 ⟨rfl,hw3⟩;have HS3:Hid (Blk w3 w2.heap.size [.slice none 0 0] 158):=Hi (by rw [hw3]; exact Blk.new w2 _ _);have hU3:Upd [] w2 w3:=by rw [hw3]; exact (Upd.refl _ _).alloc _
 have hz3:w3.heap.size=w2.heap.size+1:=by rw [hw3]; simp
 have I3:=Hi (I2.out.upd hU3);have HZ:=Hi (show w.heap.size≤w3.heap.size∧lb<w3.heap.size∧b<w3.heap.size∧xb<w3.heap.size from ⟨I3.out.2.2.2.2.size,I3.out.2.2.2.1.lt,I3.out.1.lt,I3.out.2.2.1.lt⟩);clear hw3 hU3 I2 HTT;generalize w2.heap.size=be at *;have HZ3:=Hi hz3;clear hz3;go_wp2_with fail
 refine zdC ?_;intro fr hfr;refine Code.wp_mono (Q:=fun e a' W=>e = .normal ∧ ∃ DD,a' = { fr with defers := { target := .collected DD,args := #[] }::fr.defers }∧w3.heap.size≤DD∧W.heap[DD]? =some (.deferred (some []))∧BuI w b xb lb ba bc W) ?cont ((wpIn_wide (n:=9)).1 ?main)
 case main =>
  refine zjp (gf:=216) (lb := #[.pointer (some ⟨be,0,none⟩)]) (by rw [hfr]; rfl) (enters_of Tryz.func216 (by kernel_rfl) rfl)
   (ze8 be w3 HS3.out) (by intro k hk; simp at hk; have:=HZ3.out; omega) (fun W=>BuI w b xb lb ba bc W) (BuI.own HZ.out.1) (fun A B h hu=>h.upd hu.1) I3.out ?done
  case done =>
   rintro DD W hD hI hK;exact ⟨rfl,DD,rfl,hD,hK,hI⟩
 case cont =>
  rintro e a' wz ⟨rfl,DD,rfl,hD,hDk,hI⟩;subst hfr;have HDN:=Hi (show DD≠b∧DD≠xb∧DD≠lb∧w.heap.size≤DD by have:=HZ.out; omega);have HDK:=Hi hDk;have HB:=Hi hI.1;have HR:=Hi hI.2.1;have HX:=Hi hI.2.2.1;have HL:=Hi hI.2.2.2.1;have HU:=Hi hI.2.2.2.2;have HFP:Hid (∀ k,k∈b::(Value.slice ba 0 bc).ownBlock.toList→k≠xb∧k≠lb):=Hi (fun k hk=>by
   rcases List.mem_cons.1 hk with e | hk
   · have:=HNM.out; omega
   · have h1:=JR HR.out HX.out (by decide);have h2:=JR HR.out HL.out (by decide);have hk:(Value.slice ba 0 bc).ownBlock=some k:=(by simpa using hk);exact ⟨fun e=>h1 (by rw [← e]; exact hk),fun e=>h2 (by rw [← e]; exact hk)⟩)
  have HFD:Hid (∀ k,k∈b::(Value.slice ba 0 bc).ownBlock.toList→k≠DD):=Hi (fun k hk=>by
   rcases List.mem_cons.1 hk with e | hk
   · have:=HDN.out; omega
   · obtain ⟨cs,fr,h⟩:=zjs HR.out (by simpa using hk);intro e;subst e;rw [HDK.out] at h;cases h)
  have HUW:Hid (∀ k,k∈b::(Value.slice ba 0 bc).ownBlock.toList→w.heap.size≤k):=Hi (fun k hk=>by
   rcases List.mem_cons.1 hk with e | hk
   · have:=HNM.out; omega
   · exact HOW.out k (by simpa using hk))
  clear hI I3 hDk HS3 HZ3;go_upto_region 7 with fail
  refine zhW ?_;refine wp_region_held_drew (S:=fun w'=>Blk w' xb [.pointer (some ⟨b,0,none⟩)] 95∧Blk w' lb [.int .i64 9] 3) (by kernel_rfl) ⟨HX.out.drew,HL.out.drew⟩ (fun hHeld=>hdN ?_);refine hdT 0 (some 34) ?_ (hy:=by intro w0 hSw; have q0:=hSw.1.cell 0 rfl; go_simp; try with_reducible rfl); refine hdT 1 (some 35) ?_;refine hdT 2 (some 36) ?_ (hy:=by intro w0 hSw; have q0:=hSw.2.cell 0 rfl; go_simp; try with_reducible rfl);refine hdO 3 (fun K hK=>?_);go_simp;refine (HH.out _).mono ?_;rintro e z1 ⟨rfl,hz1⟩;go_wp2;refine hK.out _ _ ⟨hHeld.1.upd hz1 (by simp),hHeld.2.upd hz1 (by simp)⟩ (fun hHeld=>hdN ?_);clear hK K;refine hdT 4 (some 38) ?_; refine hdT 5 (some 39) ?_; refine hdT 6 (some 40) ?_;refine hdO 7 (fun K hK=>?_);go_simp;refine (zeG b bc C (some ⟨b,0,none⟩) ba N s _ (HB.out.drew.upd hz1 (by simp)) (.inr rfl) (HR.out.drew.upd hz1 (by simp)) hs2).mono ?_;rintro e z2 ⟨rfl,v2,l2,hB2,hR2,hl2,hu2,hv2⟩;have hfp : ∀ k,k∈b::(Value.slice ba 0 bc).ownBlock.toList→k≠xb∧k≠lb:=fun k hk=>HFP.out k hk;go_wp2;refine hK.out _ _ ⟨hHeld.1.upd hu2 (fun hm=>(hfp _ hm).1 rfl),hHeld.2.upd hu2 (fun hm=>(hfp _ hm).2 rfl)⟩ (fun hHeld=>hdN ?_);clear hK K;refine wpAnyH_done (by kernel_rfl) ?_ 0;have HX:=Hi hHeld.1;obtain ⟨g2,c2,rfl,hg2,-⟩:=hR2.form' hs;obtain ⟨la,lc,rfl⟩:=hl2.form;have hDl:=(Array.getElem?_eq_some_iff.1 HDK.out).1;have hDl1:DD<z1.heap.size:=Nat.lt_of_lt_of_le hDl hz1.size;have HDK:=Hi ((hu2.block DD hDl1 (fun hm=>HFD.out _ hm rfl)).trans ((hz1.block DD hDl (by simp)).trans HDK.out));have HU:=Hi ((HU.out.drew.then hz1).trans hu2 (fun k hk => .inr (HUW.out k hk)));have HG2:Hid (w.heap.size≤g2):=Hi (by
   rcases hv2 with h | ⟨q,h1,h2⟩
   · exact HOW.out g2 h.symm
   · cases h1; have:=hz1.size; have h3:w.heap.size≤wz.heap.size:=by have:=HDN.out; omega
     exact Nat.le_trans h3 (Nat.le_trans this h2))
  have HB:=Hi hB2;have HR:=Hi hR2;have HRL:=Hi hl2;have HXG:Hid (g2≠xb):=Hi (fun e=>JR hR2 HX.out (by decide) (by rw [e]; rfl));have HBG:Hid (g2≠b):=Hi (fun e=>JR hR2 hB2 (by decide) (by rw [e]; rfl));have HDG:Hid (g2≠DD):=Hi (fun e=>by
   obtain ⟨cs,fr,h⟩:=zjs hR2 (k:=g2) rfl;rw [e,HDK.out] at h;cases h)
  have HLG:Hid (∀ k,(Value.slice la 1 lc).ownBlock=some k→k∉[g2]):=Hi (fun k hk hm=>zgB hl2 hR2 hk (by rw [List.mem_singleton.1 hm]; rfl) (by decide));clear hHeld hB2 hR2 hl2 hu2 hv2 hz1 hDl hDl1 hfp HFP HFD HUW HOW HL HH;have x0:=HX.out.cell 0 rfl;have bA:=HB.out.all;go_wp2_with fail
  refine (zkc b g2 c2 _ _ s _ HB.out HR.out hs).mono ?_;rintro e z3 ⟨rfl,hz3⟩;have HX:=Hi (HX.out.upd hz3 (by simp; exact Ne.symm HXG.out));have HDK:=Hi ((hz3.block DD (Array.getElem?_eq_some_iff.1 HDK.out).1 (by simp; exact Ne.symm HDG.out)).trans HDK.out);have HU:=Hi (HU.out.trans hz3 (fun k hk => .inr (by simp at hk; have:=HG2.out; omega)));have HB:=Hi (HB.out.upd hz3 (by simp; exact Ne.symm HBG.out));have HRL:=Hi (HRL.out.upd hz3 HLG.out);clear x0 bA hz3 HR;have x0:=HX.out.cell 0 rfl;have bA:=HB.out.all;go_wp2_with fail
  refine (HDR.out _ _ HRL.out).mono ?_;rintro e z4 ⟨rfl,hz4⟩;have had:=HAD.out;have HDK:=Hi ((hz4.block DD (Array.getElem?_eq_some_iff.1 HDK.out).1 (by simp)).trans HDK.out);have HU:=Hi (HU.out.then hz4);go_wp2;refine ⟨by simp,.inl ⟨_,_,rfl,run_takeDeferred HDK.out,?_⟩⟩;exact ⟨_,zcz rfl _ _,rfl,HU.out.putObjZ HDN.out.2.2.2 _⟩
end Go.Proofs.YtfkenhihcmmgkaaGreatDoor
namespace Go.Proofs.YtfkenhihcmmgkaaGreatDoor
open Go.RowKit
theorem zcE (s D:ByteArray) (gb gc at0:Nat) (r:RecD) (w:World) (hs:s.size≤1000000) (h1:gc+gb=at0) (hsl:at0≤s.size) (hD:s.extract gc at0=D) (hft:r.Fits) (hlv:(qd s [r]).2=0)
 (hfd : ∀ z,Calls Tryz.prog 33 #[.string s] z fun e w'=>e = .returned (.tuple #[EgD.v ⟨1,gb,gc,0⟩,.int .i64 (at0:Nat),.bool true])∧Upd [] z w')
 (hcl : ∀ z,Calls Tryz.prog 34 #[.string D,.int .i64 1] z fun e w'=>(∃ v,e = .returned (.tuple #[v,.int .i64 0])∧Row w' 26 9 v 1 (vh [r]))∧Upd [] z w') :
 Calls Tryz.prog 12 #[.string s] w fun e w'=>(∃ v,e = .returned (.tuple #[v,.agg #[.int .i64 1,.int .i64 (gb:Nat),.int .i64 (gc:Nat),.int .i64 0],.int .i64 0])∧Row w' 26 9 v 1 (vh [r]))∧Upd [] w w':=by
 have HFD:=Hi hfd;have HCL:=Hi hcl;have HDE:=Hi hD;have HLV0:=fun v z (h:RecsAt z v [r])=>VL s [r] v z hs h (fun q hq=>by rw [List.mem_singleton.1 hq]; exact hft) (by simp);rw [hlv] at HLV0;generalize (qd s [r]).1=SPN at *;have HLV:=Hi HLV0;unfold EgD.v at HFD;dsimp only at HFD;clear hfd hcl hD hft hlv HLV0;have HB:=Hi ((Blk.new w [.int .i64 0,.int .i64 0,.int .i64 0,.int .i64 0] 38).alloc (.cells #[.int .i64 0,.int .i64 0,.int .i64 0,.int .i64 0] 38));have HN0:Hid (Blk ((w.alloc (.cells #[.int .i64 0,.int .i64 0,.int .i64 0,.int .i64 0] 38)).alloc (.cells #[.int .i64 0,.int .i64 0,.int .i64 0,.int .i64 0] 38)) (w.heap.size+1) [.int .i64 0,.int .i64 0,.int .i64 0,.int .i64 0] 38):=Hi (by
  have h:=Blk.new (w.alloc (.cells #[.int .i64 0,.int .i64 0,.int .i64 0,.int .i64 0] 38)) [.int .i64 0,.int .i64 0,.int .i64 0,.int .i64 0] 38;simpa using h)
 have HU:=Hi (((Upd.refl [] w).alloc (.cells #[.int .i64 0,.int .i64 0,.int .i64 0,.int .i64 0] 38)).alloc (.cells #[.int .i64 0,.int .i64 0,.int .i64 0,.int .i64 0] 38));go_enter Tryz.func12,Tryz.ntmps12;go_upto_region 2 with fail
 change Code.wp _ _ _ _ ((w.alloc (.cells #[.int .i64 0,.int .i64 0,.int .i64 0,.int .i64 0] 38)).alloc (.cells #[.int .i64 0,.int .i64 0,.int .i64 0,.int .i64 0] 38));generalize (w.alloc (.cells #[.int .i64 0,.int .i64 0,.int .i64 0,.int .i64 0] 38)).alloc (.cells #[.int .i64 0,.int .i64 0,.int .i64 0,.int .i64 0] 38)=w1 at *;generalize hb:w.heap.size=b at *;generalize hn:b+1=nn at *;have hnb:nn≠b:=by omega
 have HWB:=Hi (show w.heap.size≤b by omega);clear hb;go_wp2_with fail
 refine (HFD.out _).mono ?_;rintro e w2 ⟨rfl,hu2⟩;have HB2:=Hi ((HB.out.upd hu2 (by simp)).alloc (.cells #[.int .i64 1,.int .i64 (gb:Nat),.int .i64 (gc:Nat),.int .i64 0] 38));have HU2:=Hi ((HU.out.then hu2).alloc (.cells #[.int .i64 1,.int .i64 (gb:Nat),.int .i64 (gc:Nat),.int .i64 0] 38));have HC2:=Hi (Blk.new w2 [.int .i64 1,.int .i64 (gb:Nat),.int .i64 (gc:Nat),.int .i64 0] 38);have hcb:w2.heap.size≠b:=by have:=(HB.out.upd hu2 (by simp)).lt; omega
 have HN:=Hi ((HN0.out.upd hu2 (by simp)).alloc (.cells #[.int .i64 1,.int .i64 (gb:Nat),.int .i64 (gc:Nat),.int .i64 0] 38));clear hu2 HB HU HFD HN0;go_upto_region 3 with fail
 change Code.wp _ _ _ _ (w2.alloc (.cells #[.int .i64 1,.int .i64 (gb:Nat),.int .i64 (gc:Nat),.int .i64 0] 38));generalize w2.alloc (.cells #[.int .i64 1,.int .i64 (gb:Nat),.int .i64 (gc:Nat),.int .i64 0] 38)=w3 at *;generalize w2.heap.size=c at *;have HB:=HB2;have HU:=HU2;clear HB2 HU2;have cA:=HC2.out.all;have hw1:IntKind.i64.wrap ((at0:Int)-(gc:Int))=(at0:Int)-(gc:Int):=IntWalk.i64_in _ (by omega);have h9 : ¬ (at0:Int)<(gc:Int):=by omega
 have e1:((gb:Int) != (at0:Int)-(gc:Int))=false:=by rw [bne_eq_false_iff_eq]; omega
 go_upto_region 7 with fail
 clear e1 cA hw1 h9;have hq1:(gc:Int)≤(at0:Int):=by omega
 have hq2:(at0:Int)≤(s.size:Int):=by omega
 have hq3:(0:Int)≤(gc:Int):=by omega
 refine wp_region_held_drew (S:=fun w'=>Blk w' c [.int .i64 1,.int .i64 (gb:Nat),.int .i64 (gc:Nat),.int .i64 0] 38∧(Blk w' b [.int .i64 0,.int .i64 0,.int .i64 0,.int .i64 0] 38∧Blk w' nn [.int .i64 0,.int .i64 0,.int .i64 0,.int .i64 0] 38)∧Upd [] w w') (by kernel_rfl) ⟨HC2.out.drew,⟨HB.out.drew,HN.out.drew⟩,HU.out.drew⟩ (fun hHeld=>hdN ?_);refine hdT 0 (some 38) ?_; refine hdT 1 (some 39) ?_;refine hdT 2 (some 40) ?_ (hy:=by intro w0 hSw; have q0:=hSw.1.cell 2 rfl; go_simp; try with_reducible rfl); refine hdT 3 (some 41) ?_;refine hdT 4 (some 42) ?_ (hy:=by intro w0 hSw; go_simp; all_goals first | rw [HDE.out] | (rw [← HDE.out]; simp)) (v := .string D);refine hdT 5 (some 43) ?_; refine hdT 6 (some 44) ?_ (hy:=by intro w0 hSw; have q0:=hSw.1.cell 0 rfl; go_simp; try with_reducible rfl);refine hdO 7 (fun K hK=>?_);go_simp;refine (HCL.out _).mono ?_;rintro e z1 ⟨⟨v,rfl,hrw⟩,hz1⟩;go_wp2;refine hK.out _ _ ⟨hHeld.1.upd hz1 (by simp),⟨hHeld.2.1.1.upd hz1 (by simp),hHeld.2.1.2.upd hz1 (by simp)⟩,hHeld.2.2.then hz1⟩ (fun hHeld=>hdN ?_);clear hK K;refine hdT 8 (some 37) ?_; refine hdT 9 (some 46) ?_; refine hdT 10 (some 47) ?_; refine hdT 11 (some 9) ?_; refine hdT 12 (some 10) ?_;refine wpAnyH_done (by kernel_rfl) ?_ 0;obtain ⟨va,vc,hvf⟩:=hrw.form;subst hvf;have HR6:=Hi hrw;have HC6:=Hi hHeld.1;have HB6:=Hi hHeld.2.1.1;have HN6:=Hi hHeld.2.1.2;have HU6:=Hi hHeld.2.2;clear hrw hz1 hHeld HC2 HB HU HCL;go_wp2_with fail
 refine (HLV.out _ _ (Row.recsAt HR6.out)).mono ?_;rintro e w7 ⟨⟨u7,rfl,hr7⟩,hu7⟩;have HB:=Hi (HB6.out.upd hu7 (by simp));have HU:=Hi (HU6.out.then hu7);have HN7:=Hi (HN6.out.upd hu7 (by simp));have HC7:=Hi (HC6.out.upd hu7 (by simp));have HR7:=Hi (HR6.out.upd hu7 (by simp));clear hr7 hu7 HB6 HU6 HC6 HR6 HLV;have HNE:=Hi (JR HR7.out HB.out (by decide));go_upto_region 13 with fail
 have HBD:=Hi HB.out.drew;refine wp_region_held_drew (S:=fun w'=>Blk w' c [.int .i64 1,.int .i64 (gb:Nat),.int .i64 (gc:Nat),.int .i64 0] 38) (by kernel_rfl) HC7.out.drew (fun hHeld=>hdN ?_);refine hdT 0 (some 62) ?_;refine hdT 1 (some 63) ?_ (hy:=by intro w0 hSw; have qA:=hSw.all; go_simp; try with_reducible rfl);refine hdT 2 (some 2) ?_;refine hdO 3 (fun K hK=>?_);have kA:=HB.out.all;have fA:=HB.out.frz;go_simp;go_wp2;refine hK.out _ _ ((((hHeld.setFar (a:=⟨b,0,none⟩) _ hcb).setFar (a:=⟨b,1,none⟩) _ hcb).setFar (a:=⟨b,2,none⟩) _ hcb).setFar (a:=⟨b,3,none⟩) _ hcb) (fun hHeld=>hdN ?_);clear hK K;refine hdT 4 (some 4) ?_;refine wpAnyH_done (by kernel_rfl) ?_ 0;go_wp2;exact bodyPost_ret (zdo rfl _ _ b _ _ _ _ rfl (Blk.set4 HBD.out _ _ _ _)) rfl ⟨⟨_,rfl,((((HR7.out.drew.setFar (a:=⟨b,0,none⟩) _ HNE.out).setFar (a:=⟨b,1,none⟩) _ HNE.out).setFar (a:=⟨b,2,none⟩) _ HNE.out).setFar (a:=⟨b,3,none⟩) _ HNE.out)⟩,Upd.set4 HU.out.drew (.inr HWB.out) _ _ _ _⟩
end Go.Proofs.YtfkenhihcmmgkaaGreatDoor
