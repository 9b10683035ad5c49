/- Package dump: Hex: its walk. -/
import Derived.Test.YtigjingielnaoaaGreatDoorQBV
import Derived.Test.YtigjingielnaoaaGreatDoorQBW
set_option linter.unusedVariables false
set_option linter.unusedSimpArgs false
set_option linter.unusedSectionVars false
namespace Go.Proofs.YtigjingielnaoaaGreatDoor
open Go.RowKit Go.Shelf
attribute [local go_sem] Oper.semAt_some
theorem Row.ne_blk {w:World} {e t:TypeId} {size n b:Nat} {v:Value} {xs cs:List Value} (h:Row w e size v n xs) (hB:Blk w b cs t) (ht:t≠e):v.ownBlock≠some b:=by
 rcases h.2 with ⟨rfl,rfl⟩ | ⟨g',cap,cur,rfl,hb,hh,_⟩
 · simp [Value.ownBlock]
 · intro e2
   simp [Value.ownBlock] at e2
   subst e2
   unfold Blk at hB
   rw [hh] at hB
   simp at hB
   exact ht hB.2.symm
def szT {n:Nat} (pre:List (qC n)):Nat:=(pre.map fun x=>min 16 (n-16*x.1)).sum
theorem YN {n:Nat} (pre:List (qC n)) (x:qC n):szT (pre++[x])=szT pre+min 16 (n-16*x.1):=by simp [szT]
theorem zeF {n:Nat} (pre:List (qC n)):szT pre≤16*pre.length:=by
 unfold szT
 induction pre with
 | nil=>simp
 | cons x r ih=>simp only [List.map_cons,List.sum_cons,List.length_cons]; omega
def lnT (A:Nat) (L:List Nat) {n:Nat}:Nat→List (qC n)→List (List Nat)
 | _,[]=>[]
 | s,x::r=>yi (A+s) ((L.drop (16*x.1)).take 16)::lnT A L (s+min 16 (n-16*x.1)) r
theorem Qx (A:Nat) (L:List Nat) {n:Nat} : ∀ (pre:List (qC n)) (s:Nat) (x:qC n),lnT A L s (pre++[x])=lnT A L s pre++[yi (A+(s+szT pre)) ((L.drop (16*x.1)).take 16)]
 | [],s,x=>by simp [lnT,szT]
 | y::r,s,x=>by
   simp only [List.cons_append,lnT,Qx A L r,szT,List.map_cons,List.sum_cons,Nat.add_assoc]
theorem WW (A:Nat) (L:List Nat) {n:Nat} : ∀ (pre:List (qC n)) (s:Nat),(lnT A L s pre).length=pre.length
 | [],_=>rfl
 | y::r,s=>by simp only [lnT,List.length_cons,WW A L r]
theorem zd2 (A:Nat) (L:List Nat) {n:Nat} (hL:L.length=n) (pre:List (qC n)) (h:pre.map Subtype.val=List.range ((n+15)/16)):lnT A L 0 pre=vT A L:=by
 have key : ∀ q,q≤(n+15)/16→lnT A L 0 (pre.take q)=Vs A L q∧szT (pre.take q)=min (16*q) n:=by
  intro q
  induction q with
  | zero=>intro _; exact ⟨rfl,by simp [szT]⟩
  | succ q ih =>
    intro hq
    obtain ⟨h1,h2⟩:=ih (by omega)
    have hl:pre.length=(n+15)/16:=by have:=congrArg List.length h; simpa using this
    have hx:(pre[q]'(by omega)).1=q:=by
     have h3:(pre.map Subtype.val)[q]'(by rw [List.length_map]; omega)=q:=by simp only [h,List.getElem_range]
     rw [List.getElem_map] at h3
     exact h3
    rw [List.take_succ_eq_append_getElem (by omega),Qx,YN,h1,h2,Kz,hx,Nat.zero_add]
    have hm:min (16*q) n=16*q:=by omega
    exact ⟨by rw [hm],by omega⟩
 have h1:=(key _ (Nat.le_refl _)).1
 have hl:pre.length=(n+15)/16:=by have:=congrArg List.length h; simpa using this
 rw [List.take_of_length_le (by omega)] at h1
 rw [h1]
 unfold vT
 rw [hL]
theorem ZN {fn:Func} {p:Tmp} (h:fn.results = #[.cell p 33]) (tmps:Array Value) (w:World) (g:Nat) (a:Option Addr) (n c:Nat) (hp:tmps.getD p undef = .pointer (some ⟨g,0,none⟩)) (hB:Blk w g [.slice a n c] 33) :
 (results fn tmps).run Tryz.prog w = .ok (.slice a n c) w:=by
 have hc:=hB.cell 0 rfl
 have hp2:tmps[p]?.getD undef = .pointer (some ⟨g,0,none⟩):=by rw [← hp]; simp
 simp [results,h,go_sem,hp2,hc]
def HxI (A:Nat) (L:List Nat) (w0 wz:World) (ba bo gb:Nat) {n:Nat} (pre:List (qC n)) (W:World):Prop :=
 Blk W ba [.int .i64 ((A+szT pre:Nat):Int)] 3∧(∃ v,Blk W bo [v] 33∧OwnS wz W v (lnT A L 0 pre))∧(∀ j,(hj:j<L.length)→W.cell? ⟨gb,j,none⟩=some (.int .u8 ((L[j]:Nat):Int)))∧Upd [] w0 W
theorem HxI.own {A:Nat} {L:List Nat} {w0 wz:World} {ba bo gb B n:Nat} (hB:w0.heap.size≤B) (hg:gb<B):OwnFrom B (HxI A L w0 wz ba bo gb (n:=n)):=fun p X C row hs hgr hr=>by
 obtain ⟨h1,⟨v,h2,h3⟩,h4,h5⟩:=hs
 have hrb:row≠some gb:=fun e=>by have:=(hr gb e).1; omega
 refine ⟨xD B ba (fun (_:Unit)=>_) _ () X C row h1 hgr hr,⟨v,xD B bo (fun (_:Unit)=>_) _ () X C row h2 hgr hr,h3.1.ownF hgr hr,h3.2⟩,fun j hj=>?_,vH B [] w0 hB () X C row h5 hgr hr⟩
 have hl:=World.block_lt_of_cell? X _ (h4 j hj)
 exact (World.cell?_of_block (a:=⟨gb,j,none⟩) (hgr.block gb hl (Ne.symm hrb))).trans (h4 j hj)
theorem HxI.w2 {A:Nat} {L:List Nat} {w0 wz:World} {ba bo gb n:Nat} : ∀ p X C,HxI A L w0 wz ba bo gb (n:=n) p X→Own2 [] X C→HxI A L w0 wz ba bo gb p C:=fun p X C hs hAC=>by
 obtain ⟨h1,⟨v,h2,h3⟩,h4,h5⟩:=hs
 exact ⟨h1.upd hAC.1 (by simp),⟨v,h2.upd hAC.1 (by simp),h3.upd hAC.1⟩,fun j hj=>(hAC.1.at (World.block_lt_of_cell? X _ (h4 j hj)) (by simp) j).trans (h4 j hj),h5.then hAC.1⟩
theorem Ks {A:Nat} {L:List Nat} {w0 wz W Wc z1 wq:World} {ba bo gb bs n TT m NL:Nat} {pre:List (qC n)} {x:qC n} {v v4:Value} {LL:List (List Nat)} {p:List Nat} {o:Obj}
 (g1:w0.heap.size≤ba) (g2:ba<bo) (g3:bo<gb) (g4:gb<bs) (g5:bs+1<wz.heap.size) (g6:wz.heap.size≤W.heap.size)
 (h1:Blk W ba [.int .i64 (TT:Nat)] 3) (h2:Blk W bo [v] 33) (h3:OwnS wz W v LL) (h4 : ∀ j,(hj:j<L.length)→W.cell? ⟨gb,j,none⟩=some (.int .u8 ((L[j]:Nat):Int))) (h5:Upd [] w0 W)
 (hUc:Upd [] W Wc) (hz1:Upd [] Wc.drew z1) (hn:LL.length=NL) (hR4:Row wq 9 1 v4 (NL+1) (yw LL++[.string (zf p)])) (hU4:Upd v.ownBlock.toList (z1.alloc o) wq) (hT4:Later (z1.alloc o) v v4)
 (e1:A+szT pre=TT) (e2:szT (pre++[x])=szT pre+m) (e3:lnT A L 0 (pre++[x])=LL++[p]) :
 KeepsFrom wz.heap.size W ((wq.setCell ⟨bo,0,none⟩ v4).setCell ⟨ba,0,none⟩ (.int .i64 ((TT:Int)+(m:Int))))∧Keep [bs,bs+1] W ((wq.setCell ⟨bo,0,none⟩ v4).setCell ⟨ba,0,none⟩ (.int .i64 ((TT:Int)+(m:Int)))) ∧
  HxI A L w0 wz ba bo gb (pre++[x]) ((wq.setCell ⟨bo,0,none⟩ v4).setCell ⟨ba,0,none⟩ (.int .i64 ((TT:Int)+(m:Int)))):=by
 subst hn
 have hz2:Upd [] W (z1.alloc o):=(hUc.drew.then hz1).alloc o
 have hown : ∀ k,v.ownBlock=some k→wz.heap.size≤k:=h3.2
 have hown4 : ∀ k,v4.ownBlock=some k→wz.heap.size≤k:=fun k hk=>by
  rcases hT4 with e | ⟨g,e,hg⟩
  · exact hown k (by rw [← e]; exact hk)
  · rw [hk] at e; cases e; have:=hz2.size; omega
 have hUF:Upd (ba::bo::v.ownBlock.toList) W ((wq.setCell ⟨bo,0,none⟩ v4).setCell ⟨ba,0,none⟩ (.int .i64 ((TT:Int)+(m:Int)))) :=
  (((hz2.mono (fun k hk=>by cases hk)).trans hU4 (fun k hk => .inl (by simp at hk ⊢; exact .inr (.inr hk)))).setCell (.inl (by simp)) _).setCell (.inl (by simp)) _
 have hnb : ∀ k,k<wz.heap.size→k∉v.ownBlock.toList:=fun k hk hm=>by
  have:=hown k (by simpa using hm); omega
 have hb1:Blk wq ba [.int .i64 (TT:Nat)] 3:=(h1.upd hz2 (by simp)).upd hU4 (hnb ba (by omega))
 have hb2:Blk wq bo [v] 33:=(h2.upd hz2 (by simp)).upd hU4 (hnb bo (by omega))
 refine ⟨(hUF.others (fun k hk=>?_)).from _,Keep.of_upd hUF (fun k hk=>?_),?_,⟨v4,?_,?_,hown4⟩,fun j hj=>?_,?_⟩
 · rcases List.mem_cons.1 hk with rfl | hk
   · exact h1.cellsOnly
   · rcases List.mem_cons.1 hk with rfl | hk
     · exact h2.cellsOnly
     · exact h3.1.cellsOnly k (by simpa using hk)
 · have hk2:k=bs∨k=bs+1:=by simpa using hk
   refine ⟨by omega,fun hm=>?_⟩
   rcases List.mem_cons.1 hm with e | hm
   · omega
   · rcases List.mem_cons.1 hm with e | hm
     · omega
     · exact hnb k (by omega) hm
 · rw [e2,show ((A+(szT pre+m):Nat):Int)=(TT:Int)+(m:Int) by omega]
   exact (hb1.setFar (a:=⟨bo,0,none⟩) _ (by simp; omega)).set 0 _
 · exact (hb2.set 0 v4).setFar (a:=⟨ba,0,none⟩) _ (by simp; omega)
 · rw [e3,List.length_append,List.length_singleton]
   have e:yw (LL++[p])=yw LL++[.string (zf p)]:=by unfold yw; rw [List.map_append]; rfl
   rw [e]
   exact (hR4.setFar (a:=⟨bo,0,none⟩) _ (fun e=>by have:=hown4 _ e; simp at this; omega)).setFar (a:=⟨ba,0,none⟩) _ (fun e=>by have:=hown4 _ e; simp at this; omega)
 · refine (hUF.at (World.block_lt_of_cell? W _ (h4 j hj)) (fun hm=>?_) j).trans (h4 j hj)
   rcases List.mem_cons.1 hm with e | hm
   · have e':gb=ba:=e; omega
   · rcases List.mem_cons.1 hm with e | hm
     · have e':gb=bo:=e; omega
     · exact hnb gb (by omega) hm
 · refine h5.trans hUF (fun k hk => .inr ?_)
   rcases List.mem_cons.1 hk with rfl | hk
   · exact g1
   · rcases List.mem_cons.1 hk with rfl | hk
     · omega
     · have:=hown k (by simpa using hk)
       omega
set_option maxRecDepth 100000 in
set_option maxHeartbeats 8000000 in
theorem zcS (S:ByteArray) (at_:Int) (w:World) (hs:S.size≤65536) :
 Calls Tryz.prog 50 #[.string S,.int .i64 at_] w fun e w' => ∃ v,e = .returned v∧OwnS w w' v (vT (max 0 (min at_ 1073741824)).toNat (ze S))∧Upd [] w w':=by
 obtain ⟨A,hA⟩ : ∃ A:Nat,(max 0 (min at_ 1073741824)).toNat=A:=⟨_,rfl⟩
 have hAe:max 0 (min at_ 1073741824)=(A:Int):=by omega
 have hAl:A≤1073741824:=by omega
 rw [hA]
 clear hA
 have HBL:=Lib.hid (zg S)
 have hB0:Blk ((w.alloc (.cells #[.int .i64 at_] 3)).alloc (.cells #[.slice none 0 0] 33)) (w.heap.size+1) [.slice none 0 0] 33:=by
  have:=Blk.new (w.alloc (.cells #[.int .i64 at_] 3)) [.slice none 0 0] 33
  rw [World.size_alloc] at this; exact this
 have hA0:Blk ((w.alloc (.cells #[.int .i64 at_] 3)).alloc (.cells #[.slice none 0 0] 33)) w.heap.size [.int .i64 at_] 3:=(Blk.new w _ _).alloc _
 have HB0:=Lib.hid hB0
 have HA0:=Lib.hid hA0
 have HU0:Hid (Upd [] w ((w.alloc (.cells #[.int .i64 at_] 3)).alloc (.cells #[.slice none 0 0] 33))):=Lib.hid (((Upd.refl _ _).alloc _).alloc _)
 have hsz:(S.size:Int)≤65536:=by omega
 obtain ⟨i0,hi,hz0,hz1,hz2⟩:=info_parts zc2
 clear hB0 hA0
 refine (callsIn_wide (n:=9)).1 ?_
 refine callsIn_of_wp_marks Tryz.func50 rfl trivial ?_ rfl
 simp only [Tryz.ntmps50,List.size_toArray,List.length_cons,List.length_nil,Nat.reduceAdd,Nat.reduceSub,Array.replicate_succ,Array.replicate_zero,List.push_toArray,List.append_toArray,List.nil_append,List.cons_append]
 refine wpIn_wide.2 ?_
 let QQ:Exit→Act→World→Prop:=bodyPost Tryz.prog Tryz.f50 (fun _ _=>True)
 go_upto_region 3 with fail
 change Code.wp _ _ _ _ ((w.alloc (.cells #[.int .i64 at_] 3)).alloc (.cells #[.slice none 0 0] 33))
 generalize (w.alloc (.cells #[.int .i64 at_] 3)).alloc (.cells #[.slice none 0 0] 33)=w1 at *
 have a0:=HA0.out.cell 0 rfl
 have f0:=HA0.out.frz 0
 go_cut [] (fun wx=>wx=w1.setCell ⟨w.heap.size,0,none⟩ (.int .i64 (A:Nat)))
 case first =>
  go_wp2
  go_meet
  rfl
 case rest =>
  subst hcut
  have hA1:Blk (w1.setCell ⟨w.heap.size,0,none⟩ (.int .i64 (A:Nat))) w.heap.size [.int .i64 (A:Nat)] 3:=HA0.out.set 0 _
  have hB1:Blk (w1.setCell ⟨w.heap.size,0,none⟩ (.int .i64 (A:Nat))) (w.heap.size+1) [.slice none 0 0] 33:=HB0.out.setFar _ (by simp)
  have HA1:=Lib.hid hA1
  have HB1:=Lib.hid hB1
  have HU1:Hid (Upd [] w (w1.setCell ⟨w.heap.size,0,none⟩ (.int .i64 (A:Nat)))):=Lib.hid (HU0.out.setCell (.inr (Nat.le_refl _)) _)
  clear hA1 hB1 HA0 HB0 HU0 a0 f0 hAe
  generalize w1.setCell ⟨w.heap.size,0,none⟩ (.int .i64 (A:Nat))=w2 at *
  have hcv:=Lib.run_convert_string_bytes (P:=Tryz.prog) w2 9 87 5 S Tryz.underlying9 Tryz.underlying87 Tryz.underlying5
  have HU2:=Lib.hid (QE w2 5 S)
  have HC:=Lib.hid (fun j hj=>Lib.bytesWorld_cell w2 5 S j hj)
  have hcap:=grownCap_ge w2 S.size 0 5
  have HZ2:Hid ((Lib.bytesWorld w2 5 S).heap.size=w2.heap.size+1):=Lib.hid (Lib.bytesWorld_size ..)
  generalize grownCap w2 S.size 0 5=cap at *
  generalize Lib.bytesWorld w2 5 S=w3 at *
  go_wp2_with fail
  refine (za0 _ _ _ w3).mono ?_
  rintro e w4 ⟨rfl,hw4⟩
  have hU4:Upd [] w3 w4:=by rw [hw4]; exact ((Upd.refl _ _).alloc _).alloc _
  have hS4:Blk w4 w3.heap.size [.slice (some ⟨w2.heap.size,0,none⟩) S.size cap] 87∧Blk w4 (w3.heap.size+1) [.int .i64 16] 3:=by
   rw [hw4]
   refine ⟨(Blk.new w3 _ _).alloc _,?_⟩
   have:=Blk.new (w3.alloc (.cells #[.slice (some ⟨w2.heap.size,0,none⟩) S.size cap] 87)) [.int .i64 16] 3
   rw [World.size_alloc] at this; exact this
  have hz4:w4.heap.size=w3.heap.size+2:=by rw [hw4]; simp
  have hI4:HxI A (ze S) w w4 w.heap.size (w.heap.size+1) w2.heap.size ([]:List (qC S.size)) w4:=by
   refine ⟨(HA1.out.upd HU2.out (by simp)).upd hU4 (by simp),⟨_,(HB1.out.upd HU2.out (by simp)).upd hU4 (by simp),OwnS.nil _ _⟩,fun j hj=>?_,(HU1.out.then HU2.out).then hU4⟩
   have hjs:j<S.size:=by rw [← HBL.out]; exact hj
   have hce:=HC.out j hjs
   have hge:(S.data.toList.getD j 0).toNat=(ze S)[j]:=by
    have h1:j<S.data.toList.length:=by simpa using hjs
    rw [yE S j hjs hj,List.getD,List.getElem?_eq_getElem h1]; rfl
   rw [hge] at hce
   exact (hU4.at (World.block_lt_of_cell? w3 _ hce) (by simp) j).trans hce
  have HI4:=Lib.hid hI4
  have HS4:=Lib.hid hS4
  have hbb:w.heap.size+1<w2.heap.size:=HB1.out.lt
  have hz3:w3.heap.size=w2.heap.size+1:=HZ2.out
  have hz2:w.heap.size≤w2.heap.size:=by omega
  clear hw4 hU4 hS4 hI4 HA1 HB1 HU1 HU2 HC HZ2 hcv
  obtain ⟨gb,hgb⟩ : ∃ gb,w2.heap.size=gb:=⟨_,rfl⟩
  rw [hgb] at HI4 HS4 hbb hz3 ⊢
  obtain ⟨bs,hbs⟩ : ∃ bs,w3.heap.size=bs:=⟨_,rfl⟩
  rw [hbs] at HS4 hz3 hz4 ⊢
  clear hgb hbs
  have HZ:=Lib.hid (show bs=gb+1∧w4.heap.size=gb+3 by omega)
  have hw4s:w.heap.size+1<w4.heap.size:=by omega
  have hgb4:gb<w4.heap.size:=by omega
  have hbs1 : ∀ k∈[bs,bs+1],k≠w4.heap.size+1:=by intro k hk; simp at hk; omega
  clear hz2 hz3 hz4
  have HBS:=Lib.hid hbs1
  clear hbs1
  go_wp2_with fail
  refine XT ?_
  intro fr hfr
  refine Code.wp_mono (Q:=fun e a' W=>e = .normal ∧ ∃ D pre,a' = { fr with defers := { target := .collected D,args := #[] }::fr.defers }∧w4.heap.size≤D∧W.heap[D]? =some (.deferred (some []))∧HxI A (ze S) w w4 w.heap.size (w.heap.size+1) gb (pre:List (qC S.size)) W∧Hid (pre.map Subtype.val=List.range ((S.size+15)/16))) ?cont ((wpIn_wide (n:=9)).1 ?main)
  case main =>
   refine zcc (gf:=138) (lb := #[.pointer (some ⟨bs,0,none⟩),.pointer (some ⟨bs+1,0,none⟩)]) (by rw [hfr]; rfl) (enters_of Tryz.func138 (by kernel_rfl) rfl)
    (za6 bs (bs+1) gb S.size cap w4 HS4.out.1 HS4.out.2 (by omega) (by simpa using hcap)) HBS.out (fun _=>rfl)
    (fun pre W=>HxI A (ze S) w w4 w.heap.size (w.heap.size+1) gb pre W)
    (fun _ _ _=>False)
    ?act
    (HxI.own (by omega) (by omega)) (fun c=>fun _ _ _ _ h _ _=>h)
    HxI.w2 (fun _ _ _ _ h _=>h) HI4.out ?assign ?body ?done ?stop
   case assign =>
    intro L1 x W K hK
    subst hfr
    gi_wp2
    exact hK
   case body =>
    rintro L1 pre x W hsz hfp hI hlt
    subst hfr
    obtain ⟨h1,⟨v,h2,h3⟩,h4,h5⟩:=hI
    have hsl:=zeF pre
    have hNl:(S.size+15)/16≤4097:=by omega
    obtain ⟨TT,hTT⟩ : ∃ TT,A+szT pre=TT:=⟨_,rfl⟩
    rw [hTT] at h1
    have hTl:TT≤1073807376:=by omega
    have HTT:=Lib.hid hTT
    have HX8:=Lib.hid (fun w=>Qb TT 8 w (by omega) (by omega))
    obtain ⟨va,vc,rfl⟩:=h3.form
    have HPL:=Lib.hid (WW A (ze S) pre 0)
    have hpl:pre.length≤4097:=by omega
    obtain ⟨p,hp⟩ : ∃ p,16*x.1=p:=⟨_,rfl⟩
    have hpn:p<S.size:=by rw [← hp]; exact x.2
    obtain ⟨PI,hPI⟩ : ∃ PI,((ze S).drop p).take 16=PI:=⟨_,rfl⟩
    have hPL:PI.length=min 16 (S.size-p):=by rw [← hPI,List.length_take,List.length_drop,HBL.out]
    obtain ⟨m,hm⟩ : ∃ m,min 16 (S.size-p)=m:=⟨_,rfl⟩
    have hcv:Qy gb S.size x.1 = .slice (some ⟨gb,p,none⟩) m m:=by unfold Qy; rw [hp,hm]
    rw [hcv]
    have hm16:m≤16:=by omega
    have HG:Hid (∀ j,(hj:j<PI.length)→PI[j]<256∧W.cell? ⟨gb,p+j,none⟩=some (.int .u8 ((PI[j]:Nat):Int))):=Lib.hid (by
     intro j hj
     have hjl:p+j<(ze S).length:=by rw [HBL.out]; omega
     have hgt:PI[j]=(ze S)[p+j]:=by subst hPI; rw [List.getElem_take,List.getElem_drop]
     rw [hgt]
     exact ⟨yk S _ (List.getElem_mem hjl),h4 (p+j) hjl⟩)
    have HLN:Hid (lnT A (ze S) 0 (pre++[x])=lnT A (ze S) 0 pre++[yi TT PI]):=Lib.hid (by rw [Qx,Nat.zero_add,hTT,hp,hPI])
    have HSZ:Hid (szT (pre++[x])=szT pre+m):=Lib.hid (by rw [YN,hp,hm])
    have HPM:Hid (PI.length=m):=Lib.hid (by omega)
    obtain ⟨PH,hPH⟩ : ∃ PH,PI.map (fun b=>yC b 2)=PH:=⟨_,rfl⟩
    have HPH:Hid (PH.length=m):=Lib.hid (by rw [← hPH,List.length_map]; exact HPM.out)
    have HPHG:Hid (∀ j,(hj:j<PI.length)→PH.take (j+1)=PH.take j++[yC PI[j] 2]):=Lib.hid (by
     intro j hj
     rw [List.take_succ_eq_append_getElem (by rw [← hPH,List.length_map]; exact hj)]
     simp only [← hPH,List.getElem_map])
    have HLX:Hid (zN 32 (yC TT 8::PH)=yi TT PI):=Lib.hid (by rw [← hPH]; rfl)
    have HPS:Hid ((∀ q∈yC TT 8::PH,∀ y∈q,y<256)∧qr (yC TT 8::PH)≤40):=Lib.hid ⟨fun q hq y hy=>by
     rcases List.mem_cons.1 hq with rfl | hq
     · exact YX _ _ y hy
     · rw [← hPH] at hq
       obtain ⟨b,_,rfl⟩:=List.mem_map.1 hq
       exact YX _ _ y hy,by
     have h1:=YJ TT PI
     have h2:=jF 32 (yC TT 8::PH)
     rw [HLX.out,h1,List.length_cons,HPH.out] at h2
     omega⟩
    obtain ⟨LL,hLL⟩ : ∃ LL,lnT A (ze S) 0 pre=LL:=⟨_,rfl⟩
    rw [hLL] at h2 h3 HPL HLN
    obtain ⟨NL,hNL⟩ : ∃ NL,LL.length=NL:=⟨_,rfl⟩
    have HNL:=Lib.hid hNL
    rw [hNL] at h2 h3
    have hNLb:NL≤4097:=by have:=HPL.out; omega
    clear hPH hNL hLL
    have H1:=Lib.hid h1
    have H2:=Lib.hid h2
    have H3:=Lib.hid h3
    have H4:=Lib.hid h4
    have H5:=Lib.hid h5
    have a0:=h1.cell 0 rfl
    have hW4:=hsz
    have HSZW:=Lib.hid hsz
    clear h1 h2 h3 h4 h5 hsl hNl hTT hp hPI hPL hm hcv hpn hfp hlt hsz
    gi_wp2_with fail
    refine ⟨trivial,(CallsIn.inRound L1 (callsIn_wide.2 (HX8.out _))).mono ?_⟩
    rintro e W1 ⟨rfl,hu1⟩
    have hR2:OwnS W (W1.alloc (.cells #[.string (zf (yC TT 8))] 9)) (.slice (some ⟨W1.heap.size,0,none⟩) 1 1) [yC TT 8]:=⟨Row.new W1 (yw [yC TT 8]) 9 1 1 (by decide) rfl,fun k hk=>by simp [Value.ownBlock] at hk; have:=hu1.size; omega⟩
    have hu2:Upd [] W (W1.alloc (.cells #[.string (zf (yC TT 8))] 9)):=hu1.alloc _
    have HR2:=Lib.hid hR2
    have HU2:=Lib.hid hu2
    clear hR2 hu2 hu1
    gi_wp2_with fail
    gi_loopg [6,25] m (fun gg s6 s25 ws => ∃ j,j≤m∧gg=m-j∧s25 = .int .i64 (j:Nat)∧Hid (OwnS W ws s6 (yC TT 8::PH.take j))∧Hid (Upd [] W ws))
    case atStart=>exact ⟨0,Nat.zero_le _,rfl,rfl,HR2,HU2⟩
    case round =>
     obtain ⟨j,hjm,rfl,rfl,HR,HU⟩:=hrel
     clear HR2 HU2
     by_cases hj:j<m
     · have hjz:(j:Int)<(m:Int):=by omega
       have hjP:j<PI.length:=by rw [HPM.out]; exact hj
       obtain ⟨hg1,hg2⟩:=HG.out j hjP
       have c9:=(HU.out.at (World.block_lt_of_cell? W _ hg2) (by simp) (p+j)).trans hg2
       have HTK:=Lib.hid (HPHG.out j hjP)
       generalize PI[j]=bb at *
       have HX2:=Lib.hid (fun w=>Qb bb 2 w (by omega) (by omega))
       have hwl:(yC TT 8::PH.take j).length=j+1:=by rw [List.length_cons,List.length_take,HPH.out]; omega
       obtain ⟨va2,vc2,rfl⟩:=HR.out.form
       rw [hwl] at HR ⊢
       have HWL:=Lib.hid hwl
       clear hg2 hwl hjP
       gi_wp2_with fail
       refine ⟨trivial,(CallsIn.inRound L1 (callsIn_wide.2 (HX2.out _))).mono ?_⟩
       rintro e W3 ⟨rfl,hu3⟩
       have hR3:=HR.out.upd hu3
       have HU3:=Lib.hid (HU.out.then hu3)
       have hR5:=hR3.1.alloc (.cells #[.string (zf (yC bb 2))] 9)
       rw [HWL.out] at hR5
       clear hu3
       gi_wp2_with (gi_at_builtin; refine za7 _ _ _ (by kernel_rfl) (fun K hKQ=>?_); refine zE _ rfl _ _ 33 rfl 9 i0 _ 1 16 Tryz.underlying33 hi hz0 hz1 hz2 rfl (by omega) _ (j+1) _ rfl hR5 ⟨W3.heap.size,0,none⟩ 1 1 [_] rfl rfl (World.news_of_block (cs := #[_]) (t:=9) (fr:=(0,0)) (heap_alloc_new _ _)) (by simp [Value.oneCell']) (by unfold maxLen; omega) (by omega) ?_)
       intro v4 w5 hR4 hU4 hT4
       have hap:=hR3.app (p:=yC bb 2) _ HU3.out (by rw [HWL.out]; exact hR4) hU4 hT4
       rw [List.cons_append,← HTK.out] at hap
       have HAP:=Lib.hid hap
       clear hR4 hU4 hT4 hap hR3
       go_wp2
       gi_wp2
       gi_roundg (m-(j+1))
       · exact ⟨j+1,by omega,rfl,by first | rfl | go_num,Lib.hid HAP.out.1,Lib.hid HAP.out.2⟩
       · omega
     · have hjz : ¬ (j:Int)<(m:Int):=by omega
       obtain rfl:j=m:=by omega
       have HRx:=HR
       rw [show PH.take j=PH from List.take_of_length_le (by rw [HPH.out]; exact Nat.le_refl _)] at HRx
       have hwl:(yC TT 8::PH).length=j+1:=by rw [List.length_cons,HPH.out]
       obtain ⟨va2,vc2,rfl⟩:=HRx.out.form
       rw [hwl] at HRx ⊢
       clear HR hwl
       gi_wp2_with fail
       have HDL:=Lib.hid (fun w' (h:TextsAt w' (.slice va2 (j+1) vc2) (yC TT 8::PH))=>ve _ _ w' h HPS.out.1 (by rw [List.length_cons,HPH.out]; omega) (by have:=HPS.out.2; omega))
       rw [HLX.out] at HDL
       have HUc:=Lib.hid HU.out
       have hTx:=HRx.out.texts.upd ((Upd.refl [] wr).drew)
       have hz1x:=hz1
       have c0:=(H2.out.upd HUc.out (by simp)).drew.cell 0 rfl
       have HW4:=HSZW.out
       clear hz1
       refine ZJ (S:=fun _=>True) (by kernel_rfl) (by kernel_rfl) trivial (fun hHeld K hKQ=>?_)
       change wpAnyH _ _ _ _ _ 6 #[false,false,false,false,false,false] _ _
       refine xn (i:=1) (d:=some 37) (v:=?v1_1) rfl rfl (by kernel_rfl) (by kernel_rfl) (by kernel_rfl) (fun _ _ _ h=>h) (by rfl) ?hy1_1 (by assumption) ?r1_1
       case hy1_1=>(intro w hSw; (try dsimp only at hSw); go_simp; try with_reducible rfl)
       try simp only [Act.put,List.setIfInBounds_toArray,List.set_cons_zero,List.set_cons_succ]
       change wpAnyH _ _ _ _ _ 5 #[false,true,false,false,false,false] _ _
       refine wpAnyH_ready (rs:=[0,2]) (by kernel_rfl) (by simp) ?_
       refine AllReadyH.cons rfl (fun K hK=>?_) (AllReadyH.cons rfl (fun K hK=>?_) AllReadyH.nil)
       · skip
         go_simp
         skip
         go_wp2
         refine hK.out _ _ trivial (fun hHeld=>?_)
         clear hK K
         try simp only [Act.put,List.setIfInBounds_toArray,List.set_cons_zero,List.set_cons_succ]
         change wpAnyH _ _ _ _ _ 4 #[true,true,false,false,false,false] _ _
         refine wpAnyH_ready (rs:=[2]) (by kernel_rfl) (by simp) ?_
         refine AllReadyH.cons rfl (fun K hK=>?_) AllReadyH.nil
         go_simp
         refine (HDL.out _ hTx).mono ?_
         rintro e z1 ⟨rfl,hz1⟩
         have c1:=((H2.out.upd HUc.out (by simp)).drew.upd hz1 (by simp)).cell 0 rfl
         have hRz:=(((H3.out.1.upd HUc.out (by simp)).drew.upd hz1 (by simp)).alloc (.cells #[.string (zf (yi TT PI))] 9))
         rw [HNL.out] at hRz
         go_wp2
         refine hK.out _ _ trivial (fun hHeld=>?_)
         clear hK K
         try simp only [Act.put,List.setIfInBounds_toArray,List.set_cons_zero,List.set_cons_succ]
         change wpAnyH _ _ _ _ _ 3 #[true,true,true,false,false,false] _ _
         refine wpAnyH_ready (rs:=[3]) (by kernel_rfl) (by simp) ?_
         refine AllReadyH.cons rfl (fun K hK=>?_) AllReadyH.nil
         go_simp
         have c2:=(((H2.out.upd HUc.out (by simp)).drew.upd hz1 (by simp)).alloc (.cells #[.string (zf (yi TT PI))] 9)).cell 0 rfl
         go_wp2
         refine hK.out _ _ trivial (fun hHeld=>?_)
         clear hK K
         try simp only [Act.put,List.setIfInBounds_toArray,List.set_cons_zero,List.set_cons_succ]
         change wpAnyH _ _ _ _ _ 2 #[true,true,true,true,false,false] _ _
         refine wpAnyH_ready (rs:=[4]) (by kernel_rfl) (by simp) ?_
         refine AllReadyH.cons rfl (fun K hK=>?_) AllReadyH.nil
         refine jA _ rfl _ _ 33 rfl 9 i0 _ 1 16 Tryz.underlying33 hi hz0 hz1x hz2 rfl (by omega) (.slice va NL vc) NL _ rfl hRz ⟨z1.heap.size,0,none⟩ 1 1 [_] rfl rfl (World.news_of_block (cs := #[_]) (t:=9) (fr:=(0,0)) (heap_alloc_new _ _)) (by simp [Value.oneCell']) (by unfold maxLen; omega) (by omega) ?_
         intro v4 wq hR4 hU4 hT4
         obtain ⟨g4,cap4,rfl,-,-⟩:=hR4.form' (by omega)
         have hbq:=(((H2.out.upd HUc.out (by simp)).drew.upd hz1 (by simp)).alloc (.cells #[.string (zf (yi TT PI))] 9)).upd hU4 (fun hm=>by have:=H3.out.2 _ (by simpa using hm); omega)
         have c4:=hbq.cell 0 rfl
         have f4:=hbq.frz 0
         refine hK.out _ _ trivial (fun hHeld=>?_)
         clear hK K
         try simp only [Act.put,List.setIfInBounds_toArray,List.set_cons_zero,List.set_cons_succ]
         change wpAnyH _ _ _ _ _ 1 #[true,true,true,true,true,false] _ _
         refine wpAnyH_ready (rs:=[5]) (by kernel_rfl) (by simp) ?_
         refine AllReadyH.cons rfl (fun K hK=>?_) AllReadyH.nil
         go_simp
         skip
         go_wp2
         refine hK.out _ _ trivial (fun hHeld=>?_)
         clear hK K
         try simp only [Act.put,List.setIfInBounds_toArray,List.set_cons_zero,List.set_cons_succ]
         change wpAnyH _ _ _ _ _ 0 #[true,true,true,true,true,true] _ _
         refine wpAnyH_done (by kernel_rfl) ?_ 0
         refine hKQ _ _ ?_
         clear c1 c2 c4 f4 hbq hRz
         have a5:(wq.setCell ⟨w.heap.size+1,0,none⟩ (.slice (some ⟨g4,0,none⟩) (NL+1) cap4)).cell? ⟨w.heap.size,0,none⟩=some (.int .i64 (TT:Nat)):=((((((H1.out.upd HUc.out (by simp)).drew.upd hz1 (by simp)).alloc (.cells #[.string (zf (yi TT PI))] 9)).upd hU4 (fun hm=>by have:=H3.out.2 _ (by simpa using hm); omega))).setFar (a:=⟨w.heap.size+1,0,none⟩) _ (by simp)).cell 0 rfl
         have f5:(wq.setCell ⟨w.heap.size+1,0,none⟩ (.slice (some ⟨g4,0,none⟩) (NL+1) cap4)).frozen? ⟨w.heap.size,0,none⟩=false:=((((((H1.out.upd HUc.out (by simp)).drew.upd hz1 (by simp)).alloc (.cells #[.string (zf (yi TT PI))] 9)).upd hU4 (fun hm=>by have:=H3.out.2 _ (by simpa using hm); omega))).setFar (a:=⟨w.heap.size+1,0,none⟩) _ (by simp)).frz 0
         have HE:=Lib.hid (Ks (A:=A) (x:=x) (m:=j) (bs:=bs) (Nat.le_refl _) (Nat.lt_succ_self _) hbb (by have h:=HZ.out; omega) (by have h:=HZ.out; omega) HSZW.out H1.out H2.out H3.out H4.out H5.out HUc.out hz1 HNL.out hR4 hU4 hT4 HTT.out HSZ.out HLN.out)
         clear hR4 hU4 hT4 hz1
         gi_wp2
         exact HE.out
       · skip
         go_simp
         refine (HDL.out _ hTx).mono ?_
         rintro e z1 ⟨rfl,hz1⟩
         have c1:=((H2.out.upd HUc.out (by simp)).drew.upd hz1 (by simp)).cell 0 rfl
         have hRz:=(((H3.out.1.upd HUc.out (by simp)).drew.upd hz1 (by simp)).alloc (.cells #[.string (zf (yi TT PI))] 9))
         rw [HNL.out] at hRz
         go_wp2
         refine hK.out _ _ trivial (fun hHeld=>?_)
         clear hK K
         try simp only [Act.put,List.setIfInBounds_toArray,List.set_cons_zero,List.set_cons_succ]
         change wpAnyH _ _ _ _ _ 4 #[false,true,true,false,false,false] _ _
         refine wpAnyH_ready (rs:=[0,3]) (by kernel_rfl) (by simp) ?_
         refine AllReadyH.cons rfl (fun K hK=>?_) (AllReadyH.cons rfl (fun K hK=>?_) AllReadyH.nil)
         · skip
           go_simp
           skip
           go_wp2
           refine hK.out _ _ trivial (fun hHeld=>?_)
           clear hK K
           try simp only [Act.put,List.setIfInBounds_toArray,List.set_cons_zero,List.set_cons_succ]
           change wpAnyH _ _ _ _ _ 3 #[true,true,true,false,false,false] _ _
           refine wpAnyH_ready (rs:=[3]) (by kernel_rfl) (by simp) ?_
           refine AllReadyH.cons rfl (fun K hK=>?_) AllReadyH.nil
           go_simp
           have c2:=(((H2.out.upd HUc.out (by simp)).drew.upd hz1 (by simp)).alloc (.cells #[.string (zf (yi TT PI))] 9)).cell 0 rfl
           go_wp2
           refine hK.out _ _ trivial (fun hHeld=>?_)
           clear hK K
           try simp only [Act.put,List.setIfInBounds_toArray,List.set_cons_zero,List.set_cons_succ]
           change wpAnyH _ _ _ _ _ 2 #[true,true,true,true,false,false] _ _
           refine wpAnyH_ready (rs:=[4]) (by kernel_rfl) (by simp) ?_
           refine AllReadyH.cons rfl (fun K hK=>?_) AllReadyH.nil
           refine jA _ rfl _ _ 33 rfl 9 i0 _ 1 16 Tryz.underlying33 hi hz0 hz1x hz2 rfl (by omega) (.slice va NL vc) NL _ rfl hRz ⟨z1.heap.size,0,none⟩ 1 1 [_] rfl rfl (World.news_of_block (cs := #[_]) (t:=9) (fr:=(0,0)) (heap_alloc_new _ _)) (by simp [Value.oneCell']) (by unfold maxLen; omega) (by omega) ?_
           intro v4 wq hR4 hU4 hT4
           obtain ⟨g4,cap4,rfl,-,-⟩:=hR4.form' (by omega)
           have hbq:=(((H2.out.upd HUc.out (by simp)).drew.upd hz1 (by simp)).alloc (.cells #[.string (zf (yi TT PI))] 9)).upd hU4 (fun hm=>by have:=H3.out.2 _ (by simpa using hm); omega)
           have c4:=hbq.cell 0 rfl
           have f4:=hbq.frz 0
           refine hK.out _ _ trivial (fun hHeld=>?_)
           clear hK K
           try simp only [Act.put,List.setIfInBounds_toArray,List.set_cons_zero,List.set_cons_succ]
           change wpAnyH _ _ _ _ _ 1 #[true,true,true,true,true,false] _ _
           refine wpAnyH_ready (rs:=[5]) (by kernel_rfl) (by simp) ?_
           refine AllReadyH.cons rfl (fun K hK=>?_) AllReadyH.nil
           go_simp
           skip
           go_wp2
           refine hK.out _ _ trivial (fun hHeld=>?_)
           clear hK K
           try simp only [Act.put,List.setIfInBounds_toArray,List.set_cons_zero,List.set_cons_succ]
           change wpAnyH _ _ _ _ _ 0 #[true,true,true,true,true,true] _ _
           refine wpAnyH_done (by kernel_rfl) ?_ 0
           refine hKQ _ _ ?_
           clear c1 c2 c4 f4 hbq hRz
           have a5:(wq.setCell ⟨w.heap.size+1,0,none⟩ (.slice (some ⟨g4,0,none⟩) (NL+1) cap4)).cell? ⟨w.heap.size,0,none⟩=some (.int .i64 (TT:Nat)):=((((((H1.out.upd HUc.out (by simp)).drew.upd hz1 (by simp)).alloc (.cells #[.string (zf (yi TT PI))] 9)).upd hU4 (fun hm=>by have:=H3.out.2 _ (by simpa using hm); omega))).setFar (a:=⟨w.heap.size+1,0,none⟩) _ (by simp)).cell 0 rfl
           have f5:(wq.setCell ⟨w.heap.size+1,0,none⟩ (.slice (some ⟨g4,0,none⟩) (NL+1) cap4)).frozen? ⟨w.heap.size,0,none⟩=false:=((((((H1.out.upd HUc.out (by simp)).drew.upd hz1 (by simp)).alloc (.cells #[.string (zf (yi TT PI))] 9)).upd hU4 (fun hm=>by have:=H3.out.2 _ (by simpa using hm); omega))).setFar (a:=⟨w.heap.size+1,0,none⟩) _ (by simp)).frz 0
           have HE:=Lib.hid (Ks (A:=A) (x:=x) (m:=j) (bs:=bs) (Nat.le_refl _) (Nat.lt_succ_self _) hbb (by have h:=HZ.out; omega) (by have h:=HZ.out; omega) HSZW.out H1.out H2.out H3.out H4.out H5.out HUc.out hz1 HNL.out hR4 hU4 hT4 HTT.out HSZ.out HLN.out)
           clear hR4 hU4 hT4 hz1
           gi_wp2
           exact HE.out
         · skip
           go_simp
           have c2:=(((H2.out.upd HUc.out (by simp)).drew.upd hz1 (by simp)).alloc (.cells #[.string (zf (yi TT PI))] 9)).cell 0 rfl
           go_wp2
           refine hK.out _ _ trivial (fun hHeld=>?_)
           clear hK K
           try simp only [Act.put,List.setIfInBounds_toArray,List.set_cons_zero,List.set_cons_succ]
           change wpAnyH _ _ _ _ _ 3 #[false,true,true,true,false,false] _ _
           refine wpAnyH_ready (rs:=[0]) (by kernel_rfl) (by simp) ?_
           refine AllReadyH.cons rfl (fun K hK=>?_) AllReadyH.nil
           go_simp
           skip
           go_wp2
           refine hK.out _ _ trivial (fun hHeld=>?_)
           clear hK K
           try simp only [Act.put,List.setIfInBounds_toArray,List.set_cons_zero,List.set_cons_succ]
           change wpAnyH _ _ _ _ _ 2 #[true,true,true,true,false,false] _ _
           refine wpAnyH_ready (rs:=[4]) (by kernel_rfl) (by simp) ?_
           refine AllReadyH.cons rfl (fun K hK=>?_) AllReadyH.nil
           refine jA _ rfl _ _ 33 rfl 9 i0 _ 1 16 Tryz.underlying33 hi hz0 hz1x hz2 rfl (by omega) (.slice va NL vc) NL _ rfl hRz ⟨z1.heap.size,0,none⟩ 1 1 [_] rfl rfl (World.news_of_block (cs := #[_]) (t:=9) (fr:=(0,0)) (heap_alloc_new _ _)) (by simp [Value.oneCell']) (by unfold maxLen; omega) (by omega) ?_
           intro v4 wq hR4 hU4 hT4
           obtain ⟨g4,cap4,rfl,-,-⟩:=hR4.form' (by omega)
           have hbq:=(((H2.out.upd HUc.out (by simp)).drew.upd hz1 (by simp)).alloc (.cells #[.string (zf (yi TT PI))] 9)).upd hU4 (fun hm=>by have:=H3.out.2 _ (by simpa using hm); omega)
           have c4:=hbq.cell 0 rfl
           have f4:=hbq.frz 0
           refine hK.out _ _ trivial (fun hHeld=>?_)
           clear hK K
           try simp only [Act.put,List.setIfInBounds_toArray,List.set_cons_zero,List.set_cons_succ]
           change wpAnyH _ _ _ _ _ 1 #[true,true,true,true,true,false] _ _
           refine wpAnyH_ready (rs:=[5]) (by kernel_rfl) (by simp) ?_
           refine AllReadyH.cons rfl (fun K hK=>?_) AllReadyH.nil
           go_simp
           skip
           go_wp2
           refine hK.out _ _ trivial (fun hHeld=>?_)
           clear hK K
           try simp only [Act.put,List.setIfInBounds_toArray,List.set_cons_zero,List.set_cons_succ]
           change wpAnyH _ _ _ _ _ 0 #[true,true,true,true,true,true] _ _
           refine wpAnyH_done (by kernel_rfl) ?_ 0
           refine hKQ _ _ ?_
           clear c1 c2 c4 f4 hbq hRz
           have a5:(wq.setCell ⟨w.heap.size+1,0,none⟩ (.slice (some ⟨g4,0,none⟩) (NL+1) cap4)).cell? ⟨w.heap.size,0,none⟩=some (.int .i64 (TT:Nat)):=((((((H1.out.upd HUc.out (by simp)).drew.upd hz1 (by simp)).alloc (.cells #[.string (zf (yi TT PI))] 9)).upd hU4 (fun hm=>by have:=H3.out.2 _ (by simpa using hm); omega))).setFar (a:=⟨w.heap.size+1,0,none⟩) _ (by simp)).cell 0 rfl
           have f5:(wq.setCell ⟨w.heap.size+1,0,none⟩ (.slice (some ⟨g4,0,none⟩) (NL+1) cap4)).frozen? ⟨w.heap.size,0,none⟩=false:=((((((H1.out.upd HUc.out (by simp)).drew.upd hz1 (by simp)).alloc (.cells #[.string (zf (yi TT PI))] 9)).upd hU4 (fun hm=>by have:=H3.out.2 _ (by simpa using hm); omega))).setFar (a:=⟨w.heap.size+1,0,none⟩) _ (by simp)).frz 0
           have HE:=Lib.hid (Ks (A:=A) (x:=x) (m:=j) (bs:=bs) (Nat.le_refl _) (Nat.lt_succ_self _) hbb (by have h:=HZ.out; omega) (by have h:=HZ.out; omega) HSZW.out H1.out H2.out H3.out H4.out H5.out HUc.out hz1 HNL.out hR4 hU4 hT4 HTT.out HSZ.out HLN.out)
           clear hR4 hU4 hT4 hz1
           gi_wp2
           exact HE.out
   case done =>
    rintro D xs W hD hxs hI hK
    exact ⟨rfl,D,_,rfl,hD,hK,hI,Lib.hid hxs⟩
   case stop =>
    rintro D c pre W hD hpre h hK
    exact h.elim
  case cont =>
   rintro e a' wz ⟨rfl,D,pre,rfl,hD,hDk,hI,HP⟩
   subst hfr
   obtain ⟨h1,⟨v,h2,h3⟩,h4,h5⟩:=hI
   have HH:=Lib.hid (zd2 A (ze S) HBL.out pre HP.out)
   obtain ⟨va,vc,rfl⟩:=h3.form
   have HDk:=Lib.hid hDk
   have HB:=Lib.hid h2
   have HO:=Lib.hid h3
   have HU:=Lib.hid h5
   have r0:=h2.cell 0 rfl
   have rf:=h2.frz 0
   have hwD:w.heap.size≤D:=by omega
   have hDlt:D<wz.heap.size:=(Array.getElem?_eq_some_iff.1 hDk).1
   have hne:=h3.1.ne_blk h2 (by decide)
   clear h1 h2 h3 h4 h5 hDk HP
   go_wp2
   have hk9:(wz.setCell ⟨w.heap.size+1,0,none⟩ (.slice va (lnT A (ze S) 0 pre).length vc)).heap[D]? =some (.deferred (some [])):=(Below.heap_setCell _ _ _ _ (by simp; omega)).trans HDk.out
   refine ⟨by simp,.inl ⟨_,_,rfl,run_takeDeferred hk9,?_⟩⟩
   have hB9:Blk ((wz.setCell ⟨w.heap.size+1,0,none⟩ (.slice va (lnT A (ze S) 0 pre).length vc)).putObj D (.deferred none)) (w.heap.size+1) [.slice va (lnT A (ze S) 0 pre).length vc] 33:=(World.putObj_heap_other (by omega)).trans (HB.out.set 0 _)
   have hU9:Upd [] w ((wz.setCell ⟨w.heap.size+1,0,none⟩ (.slice va (lnT A (ze S) 0 pre).length vc)).putObj D (.deferred none)):=(HU.out.setCell (.inr (by simp)) _).putObj' hwD _
   refine ⟨_,ZN rfl _ _ (w.heap.size+1) _ _ _ rfl hB9,⟨_,rfl,⟨?_,fun k hk=>by have:=HO.out.2 k hk; omega⟩,hU9⟩⟩
   rw [← HH.out]
   exact (HO.out.1.setFar (a:=⟨w.heap.size+1,0,none⟩) _ hne).ownF (grownBy_putObj' _ D (.deferred none)) (fun r e=>by cases e; exact ⟨Nat.le_refl _,_,hk9,rfl⟩)
end Go.Proofs.YtigjingielnaoaaGreatDoor
