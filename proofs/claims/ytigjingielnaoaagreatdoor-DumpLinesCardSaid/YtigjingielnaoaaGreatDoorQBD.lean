/- Package ending: Find: its walk. -/
import Derived.Sort.CutIn
import Derived.Test.YtigjingielnaoaaGreatDoorQBA
import Derived.Test.YtigjingielnaoaaGreatDoorEgB
import Derived.Test.YtigjingielnaoaaGreatDoorQAH
import Derived.Test.YtigjingielnaoaaGreatDoorQAE
set_option linter.unusedVariables false
set_option linter.unusedSimpArgs false
set_option linter.unusedSectionVars false
namespace Go.Proofs.YtigjingielnaoaaGreatDoor
open Go.RowKit Go.Shelf
attribute [local go_sem] Oper.semAt_some
theorem JF {fn:Func} {p q r:Tmp} (h:fn.results = #[.cell p 69,.cell q 3,.cell r 4]) (tmps:Array Value) (w:World) (g2 g3 g4:Nat) (c0 c1 c2 c3 d e:Value) (hp:tmps.getD p undef = .pointer (some ⟨g2,0,none⟩)) (hq:tmps.getD q undef = .pointer (some ⟨g3,0,none⟩)) (hr:tmps.getD r undef = .pointer (some ⟨g4,0,none⟩)) (h2:Blk w g2 [c0,c1,c2,c3] 69) (h3:Blk w g3 [d] 3) (h4:Blk w g4 [e] 4) :
 (results fn tmps).run Tryz.prog w = .ok (.tuple #[.agg #[c0,c1,c2,c3],d,e]) w:=by
 have e0:=h2.cell 0 rfl
 have e1:=h2.cell 1 rfl
 have e2:=h2.cell 2 rfl
 have e3:=h2.cell 3 rfl
 have e4:=h3.cell 0 rfl
 have e5:=h4.cell 0 rfl
 have hp2:tmps[p]?.getD undef = .pointer (some ⟨g2,0,none⟩):=by rw [← hp]; simp
 have hq2:tmps[q]?.getD undef = .pointer (some ⟨g3,0,none⟩):=by rw [← hq]; simp
 have hr2:tmps[r]?.getD undef = .pointer (some ⟨g4,0,none⟩):=by rw [← hr]; simp
 simp [results,h,go_sem,hp2,hq2,hr2,e0,e1,e2,e3,e4,e5]
theorem zbY (s:ByteArray) : ∀ (k:Nat),(∀ i∈plN s k,(egP s (i:Nat)).2=false)→egN s k=(EgD.no,0,false)
 | 0,_=>rfl
 | i+1,h=>by
   unfold egN
   split
   · rfl
   · rename_i h1
     unfold plN at h
     rw [if_neg h1] at h
     rw [if_neg (by rw [h i (by simp)]; decide)]
     exact zbY s i (fun j hj=>h j (by simp [hj]))
theorem zal (s:ByteArray) (x:Nat) (hx:(egP s (x:Nat)).2=true) : ∀ (k:Nat) (p r:List Nat),plN s k=p++x::r→(∀ i∈p,(egP s (i:Nat)).2=false)→egN s k=((egP s (x:Nat)).1,x,true)
 | 0,p,r,h,_=>by simp [plN] at h
 | i+1,p,r,h,hp=>by
   unfold plN at h
   split at h
   · simp at h
   · rename_i h1
     unfold egN
     rw [if_neg h1]
     cases p with
     | nil =>
       simp at h
       obtain ⟨rfl,-⟩:=h
       rw [if_pos hx]
     | cons y p =>
       simp at h
       obtain ⟨rfl,h2⟩:=h
       rw [if_neg (by rw [hp i (by simp)]; decide)]
       exact zal s x hx i p r h2 (fun j hj=>hp j (by simp [hj]))
def FnI (s:ByteArray) (w0:World) (b1 b2 b3 b4:Nat) (pre:List Nat) (W:World):Prop:=Blk W b1 [.string s] 9∧Blk W b2 [.int .i64 0,.int .i64 0,.int .i64 0,.int .i64 0] 69∧Blk W b3 [.int .i64 0] 3∧Blk W b4 [.bool false] 4∧Upd [] w0 W∧Hid (∀ i∈pre,(egP s (i:Nat)).2=false)
def FnX (s:ByteArray) (w0:World) (b2 b3 b4:Nat) (pre:List Nat) (W:World):Prop := ∃ (p:List Nat) (x:Nat),pre=p++[x]∧(∀ i∈p,(egP s (i:Nat)).2=false)∧(egP s (x:Nat)).2=true∧Blk W b2 (egP s (x:Nat)).1.cells 69∧Blk W b3 [.int .i64 (x:Nat)] 3∧Blk W b4 [.bool true] 4∧Upd [] w0 W
theorem FnI.own {s:ByteArray} {w0:World} {b1 b2 b3 b4 B:Nat} (hB:w0.heap.size≤B):OwnFrom B (FnI s w0 b1 b2 b3 b4):=fun pre X C row hs hg hr=>by
 obtain ⟨h1,h2,h3,h4,hu,hf⟩:=hs
 exact ⟨xD B b1 (fun (_:Unit)=>_) _ () X C row h1 hg hr,xD B b2 (fun (_:Unit)=>_) _ () X C row h2 hg hr,xD B b3 (fun (_:Unit)=>_) _ () X C row h3 hg hr,xD B b4 (fun (_:Unit)=>_) _ () X C row h4 hg hr,vH B [] w0 hB () X C row hu hg hr,hf⟩
theorem FnX.own {s:ByteArray} {w0:World} {b2 b3 b4 B:Nat} (hB:w0.heap.size≤B):OwnFrom B (FnX s w0 b2 b3 b4):=fun pre X C row hs hg hr=>by
 obtain ⟨p,x,e,f1,f2,h2,h3,h4,hu⟩:=hs
 exact ⟨p,x,e,f1,f2,xD B b2 (fun (_:Unit)=>_) _ () X C row h2 hg hr,xD B b3 (fun (_:Unit)=>_) _ () X C row h3 hg hr,xD B b4 (fun (_:Unit)=>_) _ () X C row h4 hg hr,vH B [] w0 hB () X C row hu hg hr⟩
theorem FnI.w2 {s:ByteArray} {w0:World} {b1 b2 b3 b4:Nat} {pre:List Nat} {A C:World} (hs:FnI s w0 b1 b2 b3 b4 pre A) (hAC:Own2 [] A C):FnI s w0 b1 b2 b3 b4 pre C:=by
 obtain ⟨k1,k2,k3,k4,ku,hf⟩:=hs
 exact ⟨k1.upd hAC.1 (by simp),k2.upd hAC.1 (by simp),k3.upd hAC.1 (by simp),k4.upd hAC.1 (by simp),ku.then hAC.1,hf⟩
theorem FnX.w2 {s:ByteArray} {w0:World} {b2 b3 b4:Nat} {pre:List Nat} {A C:World} (hs:FnX s w0 b2 b3 b4 pre A) (hAC:Own2 [] A C):FnX s w0 b2 b3 b4 pre C:=by
 obtain ⟨p,x,e,f1,f2,k2,k3,k4,ku⟩:=hs
 exact ⟨p,x,e,f1,f2,k2.upd hAC.1 (by simp),k3.upd hAC.1 (by simp),k4.upd hAC.1 (by simp),ku.then hAC.1⟩
theorem kkF {fp:List Nat} {W W':World} {bs B:Nat} (h:Upd fp W W') (hc : ∀ k∈fp,∀ o,W.heap[k]? =some o→o.isCells=true) (hn : ∀ k∈fp,k≠bs) (hb:bs<W.heap.size):KeepsFrom B W W'∧Keep [bs] W W' :=
 ⟨(h.others hc).from _,Keep.of_upd h (fun k hk=>by
   simp at hk
   subst hk
   exact ⟨hb,fun hm=>hn _ hm rfl⟩)⟩
set_option maxRecDepth 100000 in
set_option maxHeartbeats 6400000 in
theorem Wx (s:ByteArray) (w:World) (hs:s.size≤1000000) :
 Calls Tryz.prog 77 #[.string s] w fun e w'=>e = .returned (.tuple #[(egF s).1.v,.int .i64 ((egF s).2.1:Nat),.bool (egF s).2.2])∧Upd [] w w':=by
 have HS0:Hid (Blk ((((w.alloc (.cells #[.string s] 9)).alloc (.cells #[.int .i64 0,.int .i64 0,.int .i64 0,.int .i64 0] 69)).alloc (.cells #[.int .i64 0] 3)).alloc (.cells #[.bool false] 4)) w.heap.size [.string s] 9):=Lib.hid ((((Blk.new w [.string s] 9).alloc _).alloc _).alloc _)
 have H20:Hid (Blk ((((w.alloc (.cells #[.string s] 9)).alloc (.cells #[.int .i64 0,.int .i64 0,.int .i64 0,.int .i64 0] 69)).alloc (.cells #[.int .i64 0] 3)).alloc (.cells #[.bool false] 4)) (w.heap.size+1) [.int .i64 0,.int .i64 0,.int .i64 0,.int .i64 0] 69):=Lib.hid (by
  have h:=((Blk.new (w.alloc (.cells #[.string s] 9)) [.int .i64 0,.int .i64 0,.int .i64 0,.int .i64 0] 69).alloc (.cells #[.int .i64 0] 3)).alloc (.cells #[.bool false] 4)
  simpa using h)
 have H30:Hid (Blk ((((w.alloc (.cells #[.string s] 9)).alloc (.cells #[.int .i64 0,.int .i64 0,.int .i64 0,.int .i64 0] 69)).alloc (.cells #[.int .i64 0] 3)).alloc (.cells #[.bool false] 4)) (w.heap.size+1+1) [.int .i64 0] 3):=Lib.hid (by
  have h:=(Blk.new ((w.alloc (.cells #[.string s] 9)).alloc (.cells #[.int .i64 0,.int .i64 0,.int .i64 0,.int .i64 0] 69)) [.int .i64 0] 3).alloc (.cells #[.bool false] 4)
  simpa using h)
 have H40:Hid (Blk ((((w.alloc (.cells #[.string s] 9)).alloc (.cells #[.int .i64 0,.int .i64 0,.int .i64 0,.int .i64 0] 69)).alloc (.cells #[.int .i64 0] 3)).alloc (.cells #[.bool false] 4)) (w.heap.size+1+1+1) [.bool false] 4):=Lib.hid (by
  have h:=Blk.new (((w.alloc (.cells #[.string s] 9)).alloc (.cells #[.int .i64 0,.int .i64 0,.int .i64 0,.int .i64 0] 69)).alloc (.cells #[.int .i64 0] 3)) [.bool false] 4
  simpa using h)
 have HU0:=Lib.hid (((((Upd.refl [] w).alloc (.cells #[.string s] 9)).alloc (.cells #[.int .i64 0,.int .i64 0,.int .i64 0,.int .i64 0] 69)).alloc (.cells #[.int .i64 0] 3)).alloc (.cells #[.bool false] 4))
 refine (callsIn_wide (n:=9)).1 ?_
 refine callsIn_of_wp_marks Tryz.func77 rfl trivial ?_ rfl
 simp only [Tryz.ntmps77,List.size_toArray,List.length_cons,List.length_nil,Nat.reduceAdd,Nat.reduceSub,Array.replicate_succ,Array.replicate_zero,List.push_toArray,List.append_toArray,List.nil_append,List.cons_append]
 refine wpIn_wide.2 ?_
 let QQ:Exit→Act→World→Prop:=bodyPost Tryz.prog Tryz.f77 (fun _ _=>True)
 go_upto_region 1 with fail
 change Code.wp _ _ _ _ ((((w.alloc (.cells #[.string s] 9)).alloc (.cells #[.int .i64 0,.int .i64 0,.int .i64 0,.int .i64 0] 69)).alloc (.cells #[.int .i64 0] 3)).alloc (.cells #[.bool false] 4))
 generalize (((w.alloc (.cells #[.string s] 9)).alloc (.cells #[.int .i64 0,.int .i64 0,.int .i64 0,.int .i64 0] 69)).alloc (.cells #[.int .i64 0] 3)).alloc (.cells #[.bool false] 4)=w1 at *
 obtain ⟨b1,hb1⟩ : ∃ b1,w.heap.size=b1:=⟨_,rfl⟩
 obtain ⟨b2,hb2⟩ : ∃ b2,b1+1=b2:=⟨_,rfl⟩
 obtain ⟨b3,hb3⟩ : ∃ b3,b2+1=b3:=⟨_,rfl⟩
 obtain ⟨b4,hb4⟩ : ∃ b4,b3+1=b4:=⟨_,rfl⟩
 have HB:=Lib.hid (show w.heap.size=b1∧b2=b1+1∧b3=b1+2∧b4=b1+3 by omega)
 rw [hb1] at HS0 H20 H30 H40 ⊢
 rw [hb2] at H20 H30 H40 ⊢
 rw [hb3] at H30 H40 ⊢
 rw [hb4] at H40 ⊢
 have hn23:b2≠b3∧b2≠b4∧b3≠b4∧b3≠b2∧b4≠b2∧b4≠b3:=by omega
 clear hb1 hb2 hb3 hb4
 have e1:=HS0.out.cell 0 rfl
 go_wp2_with fail
 refine (Wi s w1).mono ?_
 rintro e w3 ⟨rfl,hw3⟩
 have HS3:Hid (Blk w3 w1.heap.size [.string s] 9):=Lib.hid (by rw [hw3]; exact Blk.new w1 [.string s] 9)
 have hA3:Upd [] w1 w3:=by rw [hw3]; exact (Upd.refl _ _).alloc _
 have hz3:w3.heap.size=w1.heap.size+1:=by rw [hw3]; simp
 have HI3:Hid (FnI s w b1 b2 b3 b4 [] w3):=Lib.hid ⟨HS0.out.upd hA3 (by simp),H20.out.upd hA3 (by simp),H30.out.upd hA3 (by simp),H40.out.upd hA3 (by simp),HU0.out.then hA3,Lib.hid (fun i hi=>by cases hi)⟩
 have HLT:=Lib.hid (show b1<w1.heap.size∧b2<w1.heap.size∧b3<w1.heap.size∧b4<w1.heap.size from ⟨HS0.out.lt,H20.out.lt,H30.out.lt,H40.out.lt⟩)
 clear hw3 hA3 HS0 H20 H30 H40 HU0 e1
 obtain ⟨bs,hbs⟩ : ∃ bs,w1.heap.size=bs:=⟨_,rfl⟩
 rw [hbs] at HS3 hz3 HLT ⊢
 clear hbs
 have HZ3:=Lib.hid hz3
 clear hz3
 go_wp2_with fail
 refine XT ?_
 intro fr hfr
 refine Code.wp_mono (Q:=fun e a' W=>(e = .normal∨e = .ret) ∧ ∃ D pre,a' = { fr with defers := { target := .collected D,args := #[] }::fr.defers }∧w3.heap.size≤D∧W.heap[D]? =some (.deferred (some [])) ∧
  Hid ((e = .normal∧pre=plS s∧FnI s w b1 b2 b3 b4 pre W)∨(e = .ret∧pre <+: plS s∧FnX s w b2 b3 b4 pre W))) ?cont ((wpIn_wide (n:=9)).1 ?main)
 case main =>
  refine zes (gf:=155) (lb := #[.pointer (some ⟨bs,0,none⟩)]) (by rw [hfr]; rfl) (enters_of Tryz.func155 (by kernel_rfl) rfl)
   (Wk bs s w3 HS3.out hs) (by intro k hk; simp at hk; have:=HZ3.out; omega) (fun _=>rfl)
   (fun pre W=>FnI s w b1 b2 b3 b4 pre W)
   (fun c pre W=>c = .ret∧FnX s w b2 b3 b4 pre W)
   ?act
   (FnI.own (by have:=HB.out; have:=HLT.out; have:=HZ3.out; omega)) (fun c=>OwnFrom.and (ownFrom_pure _ _) (FnX.own (by have:=HB.out; have:=HLT.out; have:=HZ3.out; omega)))
   ?iw ?ixw HI3.out ?assign ?body ?done ?stop
  case assign =>
   intro L1 x W K hK
   subst hfr
   gi_wp2
   exact hK
  case iw=>exact fun s' A C h hAC=>h.w2 hAC
  case ixw=>exact fun c s' A C h hAC=>⟨h.1,h.2.w2 hAC⟩
  case body =>
   rintro L1 pre x W hsz hfp ⟨h1,h2,h3,h4,hu,hf⟩ hnx
   subst hfr
   have HRD:=Lib.hid (fun z=>KY s (x:Nat) z hs)
   have HEQ:=Lib.hid (show ∀ j∈pre,(egP s (j:Nat)).2=false from hf.out)
   have c1:=h1.cell 0 rfl
   have H1:=Lib.hid h1
   have H2:=Lib.hid h2
   have H3:=Lib.hid h3
   have H4:=Lib.hid h4
   have HU:=Lib.hid hu
   clear h1 h2 h3 h4 hu hf
   obtain ⟨EP,hEP⟩ : ∃ EP,egP s (x:Nat)=EP:=⟨_,rfl⟩
   have HEP:=Lib.hid hEP
   rw [hEP] at HRD
   clear hEP
   obtain ⟨⟨ga,gb,gc,gd⟩,OK⟩:=EP
   unfold EgD.v at HRD
   dsimp only at HRD
   gi_wp2_with fail
   refine ⟨trivial,(CallsIn.inRound L1 (callsIn_wide.2 (HRD.out _))).mono ?_⟩
   rintro e W3 ⟨rfl,hu3⟩
   have ha:Upd [] W (W3.alloc (.cells #[.int .i64 (ga:Nat),.int .i64 (gb:Nat),.int .i64 (gc:Nat),.int .i64 (gd:Nat)] 69)):=hu3.alloc _
   have H1a:=Lib.hid (H1.out.upd ha (by simp))
   have H2a:=Lib.hid (H2.out.upd ha (by simp))
   have H3a:=Lib.hid (H3.out.upd ha (by simp))
   have H4a:=Lib.hid (H4.out.upd ha (by simp))
   have HUa:=Lib.hid (HU.out.then ha)
   have HXa:=Lib.hid (Blk.new W3 [.int .i64 (ga:Nat),.int .i64 (gb:Nat),.int .i64 (gc:Nat),.int .i64 (gd:Nat)] 69)
   have hbW:bs<W.heap.size:=by have:=HZ3.out; omega
   have HAU:=Lib.hid ha
   clear hu3 c1 ha
   cases OK with
   | false =>
     have HE:Hid (KeepsFrom w3.heap.size W (W3.alloc (.cells #[.int .i64 (ga:Nat),.int .i64 (gb:Nat),.int .i64 (gc:Nat),.int .i64 (gd:Nat)] 69))∧Keep [bs] W (W3.alloc (.cells #[.int .i64 (ga:Nat),.int .i64 (gb:Nat),.int .i64 (gc:Nat),.int .i64 (gd:Nat)] 69))∧FnI s w b1 b2 b3 b4 (pre++[x]) (W3.alloc (.cells #[.int .i64 (ga:Nat),.int .i64 (gb:Nat),.int .i64 (gc:Nat),.int .i64 (gd:Nat)] 69))):=Lib.hid (by
      have hk:=kkF (B:=w3.heap.size) HAU.out (by simp) (by simp) hbW
      refine ⟨hk.1,hk.2,H1a.out,H2a.out,H3a.out,H4a.out,HUa.out,Lib.hid (fun i hi=>?_)⟩
      rcases List.mem_append.1 hi with hi | hi
      · exact HEQ.out i hi
      · rw [List.mem_singleton.1 hi,HEP.out])
     gi_wp2
     exact HE.out
   | true =>
     have hxA:=HXa.out.all
     gi_upto_region 5 with fail
     generalize W3.alloc (.cells #[.int .i64 (ga:Nat),.int .i64 (gb:Nat),.int .i64 (gc:Nat),.int .i64 (gd:Nat)] 69)=W4 at *
     generalize W3.heap.size=g7 at *
     have kA:=H2a.out.all
     have fA:=H2a.out.frz
     have k4:=H3a.out.cell 0 rfl
     have f4:=H3a.out.frz 0
     have k5:=H4a.out.cell 0 rfl
     have f5:=H4a.out.frz 0
     have HB2:=Lib.hid (((Blk.set4 H2a.out (.int .i64 (ga:Nat)) (.int .i64 (gb:Nat)) (.int .i64 (gc:Nat)) (.int .i64 (gd:Nat))).setFar (a:=⟨b3,0,none⟩) (.int .i64 (x:Nat)) hn23.1).setFar (a:=⟨b4,0,none⟩) (.bool true) hn23.2.1)
     have HB3:=Lib.hid ((((((H3a.out.setFar (a:=⟨b2,0,none⟩) (.int .i64 (ga:Nat)) hn23.2.2.2.1).setFar (a:=⟨b2,1,none⟩) (.int .i64 (gb:Nat)) hn23.2.2.2.1).setFar (a:=⟨b2,2,none⟩) (.int .i64 (gc:Nat)) hn23.2.2.2.1).setFar (a:=⟨b2,3,none⟩) (.int .i64 (gd:Nat)) hn23.2.2.2.1).set 0 (.int .i64 (x:Nat))).setFar (a:=⟨b4,0,none⟩) (.bool true) hn23.2.2.1)
     have HB4:=Lib.hid ((((((H4a.out.setFar (a:=⟨b2,0,none⟩) (.int .i64 (ga:Nat)) hn23.2.2.2.2.1).setFar (a:=⟨b2,1,none⟩) (.int .i64 (gb:Nat)) hn23.2.2.2.2.1).setFar (a:=⟨b2,2,none⟩) (.int .i64 (gc:Nat)) hn23.2.2.2.2.1).setFar (a:=⟨b2,3,none⟩) (.int .i64 (gd:Nat)) hn23.2.2.2.2.1).setFar (a:=⟨b3,0,none⟩) (.int .i64 (x:Nat)) hn23.2.2.2.2.2).set 0 (.bool true))
     have hwb:w.heap.size≤b2∧w.heap.size≤b3∧w.heap.size≤b4:=by have:=HB.out; omega
     have HUF:=Lib.hid (((Upd.set4 (b:=b2) HUa.out (.inr hwb.1) (.int .i64 (ga:Nat)) (.int .i64 (gb:Nat)) (.int .i64 (gc:Nat)) (.int .i64 (gd:Nat))).setCell (p:=⟨b3,0,none⟩) (.inr hwb.2.1) (.int .i64 (x:Nat))).setCell (p:=⟨b4,0,none⟩) (.inr hwb.2.2) (.bool true))
     have HKU:=Lib.hid (((Upd.set4 (b:=b2) (HAU.out.mono (fp':=[b2,b3,b4]) (fun k hk=>by simp at hk)) (.inl (by simp)) (.int .i64 (ga:Nat)) (.int .i64 (gb:Nat)) (.int .i64 (gc:Nat)) (.int .i64 (gd:Nat))).setCell (p:=⟨b3,0,none⟩) (.inl (by simp)) (.int .i64 (x:Nat))).setCell (p:=⟨b4,0,none⟩) (.inl (by simp)) (.bool true))
     have HKK:=Lib.hid ((HKU.out.others (fun k hk=>by
      simp at hk
      rcases hk with rfl | rfl | rfl
      · exact H2.out.cellsOnly
      · exact H3.out.cellsOnly
      · exact H4.out.cellsOnly)).from w3.heap.size)
     gi_wp2
     exact ⟨HKK.out,rfl,pre,x,rfl,HEQ.out,by rw [HEP.out],by rw [HEP.out]; exact HB2.out,HB3.out,HB4.out,HUF.out⟩
  case done =>
   rintro D xs W hD hxs hI hK
   exact ⟨.inl rfl,D,_,rfl,hD,hK,Lib.hid (.inl ⟨rfl,hxs,hI⟩)⟩
  case stop =>
   rintro D c pre W hD hpre ⟨rfl,hX⟩ hK
   refine wpIn_ret ?_
   exact ⟨.inr rfl,D,pre,rfl,hD,hK,Lib.hid (.inr ⟨rfl,hpre,hX⟩)⟩
 case cont =>
  rintro e a' wz ⟨he,D,pre,rfl,hD,hDk,HP⟩
  subst hfr
  have hwD:w.heap.size≤D:=by have:=HB.out; have:=HLT.out; have:=HZ3.out; omega
  have hbD:b2≠D∧b3≠D∧b4≠D:=by have:=HLT.out; have:=HZ3.out; omega
  have HDk:=Lib.hid hDk
  have hDlt:D<wz.heap.size:=(Array.getElem?_eq_some_iff.1 hDk).1
  have HEF:Hid (egF s=egN s (s.size+1-22)):=Lib.hid rfl
  have HPS:Hid (plS s=plN s (s.size+1-22)):=Lib.hid rfl
  clear hDk
  rcases HP.out with ⟨rfl,hpp,h1,h2,h3,h4,hu,hf⟩ | ⟨rfl,hpp,p,x,hpx,hfp,hx,h2,h3,h4,hu⟩
  · have HV:Hid (egF s=(EgD.no,0,false)):=Lib.hid (by
     rw [HEF.out]
     exact zbY s _ (fun i hi=>hf.out i (by rw [hpp,HPS.out]; exact hi)))
    have H2:=Lib.hid h2
    have H3:=Lib.hid h3
    have H4:=Lib.hid h4
    have HU:=Lib.hid hu
    have kA:=h2.all
    have fA:=h2.frz
    have k4:=h3.cell 0 rfl
    have f4:=h3.frz 0
    have k5:=h4.cell 0 rfl
    have f5:=h4.frz 0
    clear HP h1 h2 h3 h4 hu hf he hpp HEF HPS
    go_wp2
    have hk9:((((((wz.setCell ⟨b2,0,none⟩ (.int .i64 0)).setCell ⟨b2,1,none⟩ (.int .i64 0)).setCell ⟨b2,2,none⟩ (.int .i64 0)).setCell ⟨b2,3,none⟩ (.int .i64 0)).setCell ⟨b3,0,none⟩ (.int .i64 0)).setCell ⟨b4,0,none⟩ (.bool false)).heap[D]? =some (.deferred (some [])) :=
     (Below.heap_setCell _ _ _ _ (by simp; omega)).trans ((Below.heap_setCell _ _ _ _ (by simp; omega)).trans ((Below.heap_setCell _ _ _ _ (by simp; omega)).trans ((Below.heap_setCell _ _ _ _ (by simp; omega)).trans ((Below.heap_setCell _ _ _ _ (by simp; omega)).trans ((Below.heap_setCell _ _ _ _ (by simp; omega)).trans HDk.out)))))
    refine ⟨by simp,.inl ⟨_,_,rfl,run_takeDeferred hk9,?_⟩⟩
    have hwb:w.heap.size≤b2∧w.heap.size≤b3∧w.heap.size≤b4:=by have:=HB.out; omega
    have q2:Blk ((((((wz.setCell ⟨b2,0,none⟩ (.int .i64 0)).setCell ⟨b2,1,none⟩ (.int .i64 0)).setCell ⟨b2,2,none⟩ (.int .i64 0)).setCell ⟨b2,3,none⟩ (.int .i64 0)).setCell ⟨b3,0,none⟩ (.int .i64 0)).setCell ⟨b4,0,none⟩ (.bool false)) b2 [.int .i64 0,.int .i64 0,.int .i64 0,.int .i64 0] 69:=((Blk.set4 H2.out (.int .i64 0) (.int .i64 0) (.int .i64 0) (.int .i64 0)).setFar (a:=⟨b3,0,none⟩) (.int .i64 0) hn23.1).setFar (a:=⟨b4,0,none⟩) (.bool false) hn23.2.1
    have q3:Blk ((((((wz.setCell ⟨b2,0,none⟩ (.int .i64 0)).setCell ⟨b2,1,none⟩ (.int .i64 0)).setCell ⟨b2,2,none⟩ (.int .i64 0)).setCell ⟨b2,3,none⟩ (.int .i64 0)).setCell ⟨b3,0,none⟩ (.int .i64 0)).setCell ⟨b4,0,none⟩ (.bool false)) b3 [.int .i64 0] 3:=(((((H3.out.setFar (a:=⟨b2,0,none⟩) (.int .i64 0) hn23.2.2.2.1).setFar (a:=⟨b2,1,none⟩) (.int .i64 0) hn23.2.2.2.1).setFar (a:=⟨b2,2,none⟩) (.int .i64 0) hn23.2.2.2.1).setFar (a:=⟨b2,3,none⟩) (.int .i64 0) hn23.2.2.2.1).set 0 (.int .i64 0)).setFar (a:=⟨b4,0,none⟩) (.bool false) hn23.2.2.1
    have q4:Blk ((((((wz.setCell ⟨b2,0,none⟩ (.int .i64 0)).setCell ⟨b2,1,none⟩ (.int .i64 0)).setCell ⟨b2,2,none⟩ (.int .i64 0)).setCell ⟨b2,3,none⟩ (.int .i64 0)).setCell ⟨b3,0,none⟩ (.int .i64 0)).setCell ⟨b4,0,none⟩ (.bool false)) b4 [.bool false] 4:=(((((H4.out.setFar (a:=⟨b2,0,none⟩) (.int .i64 0) hn23.2.2.2.2.1).setFar (a:=⟨b2,1,none⟩) (.int .i64 0) hn23.2.2.2.2.1).setFar (a:=⟨b2,2,none⟩) (.int .i64 0) hn23.2.2.2.2.1).setFar (a:=⟨b2,3,none⟩) (.int .i64 0) hn23.2.2.2.2.1).setFar (a:=⟨b3,0,none⟩) (.int .i64 0) hn23.2.2.2.2.2).set 0 (.bool false)
    have qU:Upd [] w ((((((wz.setCell ⟨b2,0,none⟩ (.int .i64 0)).setCell ⟨b2,1,none⟩ (.int .i64 0)).setCell ⟨b2,2,none⟩ (.int .i64 0)).setCell ⟨b2,3,none⟩ (.int .i64 0)).setCell ⟨b3,0,none⟩ (.int .i64 0)).setCell ⟨b4,0,none⟩ (.bool false)):=((Upd.set4 (b:=b2) HU.out (.inr hwb.1) (.int .i64 0) (.int .i64 0) (.int .i64 0) (.int .i64 0)).setCell (p:=⟨b3,0,none⟩) (.inr hwb.2.1) (.int .i64 0)).setCell (p:=⟨b4,0,none⟩) (.inr hwb.2.2) (.bool false)
    have r2:Blk (((((((wz.setCell ⟨b2,0,none⟩ (.int .i64 0)).setCell ⟨b2,1,none⟩ (.int .i64 0)).setCell ⟨b2,2,none⟩ (.int .i64 0)).setCell ⟨b2,3,none⟩ (.int .i64 0)).setCell ⟨b3,0,none⟩ (.int .i64 0)).setCell ⟨b4,0,none⟩ (.bool false)).putObj D (.deferred none)) b2 [.int .i64 0,.int .i64 0,.int .i64 0,.int .i64 0] 69:=(World.putObj_heap_other (by omega)).trans q2
    have r3:Blk (((((((wz.setCell ⟨b2,0,none⟩ (.int .i64 0)).setCell ⟨b2,1,none⟩ (.int .i64 0)).setCell ⟨b2,2,none⟩ (.int .i64 0)).setCell ⟨b2,3,none⟩ (.int .i64 0)).setCell ⟨b3,0,none⟩ (.int .i64 0)).setCell ⟨b4,0,none⟩ (.bool false)).putObj D (.deferred none)) b3 [.int .i64 0] 3:=(World.putObj_heap_other (by omega)).trans q3
    have r4:Blk (((((((wz.setCell ⟨b2,0,none⟩ (.int .i64 0)).setCell ⟨b2,1,none⟩ (.int .i64 0)).setCell ⟨b2,2,none⟩ (.int .i64 0)).setCell ⟨b2,3,none⟩ (.int .i64 0)).setCell ⟨b3,0,none⟩ (.int .i64 0)).setCell ⟨b4,0,none⟩ (.bool false)).putObj D (.deferred none)) b4 [.bool false] 4:=(World.putObj_heap_other (by omega)).trans q4
    exact ⟨_,JF rfl _ _ b2 b3 b4 _ _ _ _ _ _ rfl rfl rfl r2 r3 r4,by rw [HV.out]; rfl,qU.putObj' hwD _⟩
  · have HV:Hid (egF s=((egP s (x:Nat)).1,x,true)):=Lib.hid (by
     rw [HEF.out]
     obtain ⟨r,hr⟩:=hpp
     exact zal s x hx _ p r (by rw [← HPS.out,← hr,hpx]; simp) hfp)
    have H2:=Lib.hid h2
    have H3:=Lib.hid h3
    have H4:=Lib.hid h4
    have HU:=Lib.hid hu
    clear HP h2 h3 h4 hu he hpp HEF HPS
    simp only [Exit.inBlock,Exit.then]
    show bodyPostM _ _ _ _ _ Exit.ret _ _
    refine ⟨by simp,.inl ⟨_,_,rfl,run_takeDeferred HDk.out,?_⟩⟩
    have r2:Blk (wz.putObj D (.deferred none)) b2 (egP s (x:Nat)).1.cells 69:=(World.putObj_heap_other (by omega)).trans H2.out
    have r3:Blk (wz.putObj D (.deferred none)) b3 [.int .i64 (x:Nat)] 3:=(World.putObj_heap_other (by omega)).trans H3.out
    have r4:Blk (wz.putObj D (.deferred none)) b4 [.bool true] 4:=(World.putObj_heap_other (by omega)).trans H4.out
    exact ⟨_,JF rfl _ _ b2 b3 b4 _ _ _ _ _ _ rfl rfl rfl r2 r3 r4,by rw [HV.out]; rfl,HU.out.putObj' hwD _⟩
end Go.Proofs.YtigjingielnaoaaGreatDoor
namespace Go.Proofs.YtigjingielnaoaaGreatDoor
open Go.RowKit
theorem zaK (k:Int) (w:World):Calls Tryz.prog 161 #[.int .i64 k] w fun e w'=>e = .returned (.int .i64 (if k=2 then 16384 else 32768))∧w=w':=by
 by_cases h:k=2
 · subst h
   go_enter Tryz.func161,Tryz.ntmps161
   go_wp2
   go_ret
   exact ⟨rfl,rfl⟩
 · have t1:(k==2)=false:=by simpa using h
   go_enter Tryz.func161,Tryz.ntmps161
   go_wp2
   go_ret
   exact ⟨rfl,rfl⟩
end Go.Proofs.YtigjingielnaoaaGreatDoor
namespace Go.Proofs.YtigjingielnaoaaGreatDoor
open Go.RowKit
theorem zaB (r:RecD) (w:World) (h:r.Fits):Calls Tryz.prog 163 #[r.v] w fun e w'=>e = .returned (.int .i64 (46+(zF r.k r.p).length:Nat))∧Upd [] w w':=by
 have hl:=xV r.k r.p
 have hp:=h.p
 have HNM:=Lib.hid (fun w=>Zm r w h)
 obtain ⟨p,m,sum,l,wh,k,md,t,pos⟩:=r
 dsimp only at hp hl HNM
 unfold RecD.v at *
 dsimp only at HNM ⊢
 have hsz:=zh (zF k p)
 have HSZ:=Lib.hid hsz
 have hb:(zf (zF k p)).size≤1001:=by omega
 generalize zf (zF k p)=S at *
 generalize (zF k p).length=n at *
 clear hsz
 go_enter Tryz.func163,Tryz.ntmps163
 go_wp2_with fail
 refine (HNM.out _).mono ?_
 rintro e w1 ⟨rfl,hU⟩
 go_wp2
 go_ret
 exact ⟨by rw [← HSZ.out]; show Ending.returned (.int .i64 (46+(S.size:Int)))=_; simp,((Upd.refl _ _).alloc _).then hU⟩
end Go.Proofs.YtigjingielnaoaaGreatDoor
