/- Package strings: SplitSeq at "/": the iterator's contract. -/
import Derived.Test.YtigjingielnaoaaGreatDoorQAB
import Derived.Test.YtigjingielnaoaaGreatDoorQAC
set_option linter.unusedVariables false
set_option linter.unusedSimpArgs false
set_option linter.unusedSectionVars false
namespace Go.Proofs.YtigjingielnaoaaGreatDoor
open Go.RowKit Go.Shelf
attribute [local go_sem] Oper.semAt_some
def yL (s:ByteArray):List ByteArray:=(zl (ze s)).map zf
theorem Yc (s:ByteArray) (h:zQ (ze s)<s.size):yL s=s.extract 0 (zQ (ze s))::yL (s.extract (zQ (ze s)+1) s.size):=by
 unfold yL
 rw [jY _ (by rw [zg]; exact h),List.map_cons,← jc,zr,List.take_of_length_le (by rw [List.length_drop,zg]; omega)]
theorem Ka (s:ByteArray) (h : ¬ zQ (ze s)<s.size):yL s=[s]:=by
 unfold yL
 rw [kO _ (by rw [zg]; exact h),List.map_cons,zw]; rfl
abbrev Shs := { x:ByteArray // x.size≤9223372036854775807 }
theorem Yw (s:ByteArray) (w:World):Calls Tryz.prog 62 #[.string s,.string { data := #[47] }] w fun e w' =>
 e = .returned (.func (.func 147) #[] #[.pointer (some ⟨w.heap.size+1,0,none⟩),.pointer (some ⟨w.heap.size,0,none⟩),.pointer (some ⟨w.heap.size+2,0,none⟩)]) ∧
 w'=((w.alloc (.cells #[.string s] 9)).alloc (.cells #[.string { data := #[47] }] 9)).alloc (.cells #[.int .i64 0] 3):=by
 have h1:Calls Tryz.prog 102 #[.string s,.string { data := #[47] },.int .i64 0] w fun e w' =>
  e = .returned (.func (.func 147) #[] #[.pointer (some ⟨w.heap.size+1,0,none⟩),.pointer (some ⟨w.heap.size,0,none⟩),.pointer (some ⟨w.heap.size+2,0,none⟩)]) ∧
  w'=((w.alloc (.cells #[.string s] 9)).alloc (.cells #[.string { data := #[47] }] 9)).alloc (.cells #[.int .i64 0] 3):=by
  go_enter Tryz.func102,Tryz.ntmps102
  go_wp2
  go_ret
  exact ⟨rfl,rfl⟩
 go_enter Tryz.func62,Tryz.ntmps62
 go_wp2_with (go_at_call 102; refine h1.mono ?_; rintro e w' ⟨rfl,rfl⟩)
 go_ret
 exact ⟨rfl,rfl⟩
set_option maxRecDepth 100000 in
set_option maxHeartbeats 2000000 in
theorem zbT (Bs Bq Bv:Nat) (s:ByteArray) (w:World) (hB:Blk w Bs [.string s] 9) (hQ:Blk w Bq [.string { data := #[47] }] 9) (hV:Blk w Bv [.int .i64 0] 3) (hne:Bq≠Bs∧Bv≠Bs) (hs:s.size≤9223372036854775806) :
 zcw Tryz.prog 147 #[.pointer (some ⟨Bq,0,none⟩),.pointer (some ⟨Bs,0,none⟩),.pointer (some ⟨Bv,0,none⟩)] (fun x:Shs => #[Value.string x.1]) [Bs] [Bs,Bq,Bv] (fun xs=>xs.map Subtype.val=yL s) (fun pre=>pre.map Subtype.val <+: yL s) (yL s).length w:=by
 intro l J Jx W hU hz hJ hJx hY h0
 have b1:Blk W Bs [.string s] 9:=hB.upd hU (by simp)
 have b2:Blk W Bq [.string { data := #[47] }] 9:=hQ.upd hU (by simp)
 have b3:Blk W Bv [.int .i64 0] 3:=hV.upd hU (by simp)
 have HJ:=Lib.hid hJ
 have HY:=Lib.hid hY
 have HJ0:=Lib.hid h0
 clear hJ hY h0 hJx hU hz hB hQ hV
 have HB:Hid (Blk W Bs [.string s] 9∧Blk W Bq [.string { data := #[47] }] 9∧Blk W Bv [.int .i64 0] 3):=Lib.hid ⟨b1,b2,b3⟩
 have cq0:=b2.cell 0 rfl
 clear b1 b2 b3
 obtain ⟨hq1,hq2⟩:=hne
 have HN:=Lib.hid hq1
 have HN2:=Lib.hid hq2
 clear hq1 hq2
 refine callsIn_of_wp Tryz.func147 rfl trivial ?_ rfl
 simp only [Tryz.ntmps147,List.size_toArray,List.length_cons,List.length_nil,Nat.reduceAdd,Nat.reduceSub,Array.replicate_succ,Array.replicate_zero,List.push_toArray,List.append_toArray,List.nil_append,List.cons_append]
 gi_wp2
 clear cq0
 gi_loopg [] s.size (fun g wr => ∃ r:ByteArray,∃ pre:List Shs,g=r.size∧r.size≤s.size∧Hid (yL s=pre.map Subtype.val++yL r)∧Hid (J pre wr)∧Hid (Blk wr Bs [.string r] 9∧Blk wr Bq [.string { data := #[47] }] 9∧Blk wr Bv [.int .i64 0] 3))
 case atStart=>exact ⟨s,[],rfl,Nat.le_refl _,Lib.hid rfl,HJ0,HB⟩
 case round =>
  obtain ⟨r,pre,rfl,hrs,HP,HJp,HBk⟩:=hrel
  clear HB HJ0
  have hr1:r.size≤9223372036854775806:=by omega
  have c1:=HBk.out.1.cell 0 rfl
  have c2:=HBk.out.2.1.cell 0 rfl
  have c3:=HBk.out.2.2.cell 0 rfl
  have hf1:=HBk.out.1.frz 0
  have hlt:Bs<wr.heap.size:=HBk.out.1.lt
  by_cases hc:zQ (ze r)<r.size
  · have HIX:=Lib.hid (fun w=>zbQ r w hc)
    have HPF:=Lib.hid (Yc r hc)
    generalize zQ (ze r)=f at *
    have hlen:pre.length<(yL s).length:=by rw [HP.out,HPF.out,List.length_append,List.length_map,List.length_cons]; omega
    have hxf0:(r.extract 0 f).size≤9223372036854775807:=by rw [ByteArray.size_extract]; omega
    obtain ⟨fn,tmps,assign,body,hy,hRd⟩:=HY.out pre ⟨r.extract 0 f,hxf0⟩ wr HJp.out hlen (by intro q hq; simp at hq; subst hq; exact hlt)
    clear hlen
    have HLT:=Lib.hid hlt
    clear hlt
    gi_wp2_with fail
    refine ⟨trivial,(callsIn_wide.2 (HIX.out _)).mono ?_⟩
    rintro e w2 ⟨rfl,rfl⟩
    gi_wp2
    refine hRd.mono ?_
    rintro e W3 (⟨rfl,hJ3,hk3⟩ | ⟨rfl,hJx3⟩)
    · have d1:Blk W3 Bs [.string r] 9:=(hk3.2 Bs (by simp)).trans HBk.out.1
      have d2:Blk W3 Bq [.string { data := #[47] }] 9:=(hk3.2 Bq (by simp)).trans HBk.out.2.1
      have d3:Blk W3 Bv [.int .i64 0] 3:=(hk3.2 Bv (by simp)).trans HBk.out.2.2
      have hx1:=d1.cell 0 rfl
      have hx2:=d2.cell 0 rfl
      have hxf:=d1.frz 0
      have HD:Hid (Blk W3 Bs [.string r] 9∧Blk W3 Bq [.string { data := #[47] }] 9∧Blk W3 Bv [.int .i64 0] 3):=Lib.hid ⟨d1,d2,d3⟩
      have HJ3:=Lib.hid hJ3
      clear d1 d2 d3 hk3 hJ3 c1 c2 c3 hf1 hy HBk
      have hsz:(r.extract (f+1) r.size).size=r.size-(f+1):=by rw [ByteArray.size_extract]; omega
      have HSZ:=Lib.hid hsz
      clear hsz
      gi_wp2
      gi_roundg (r.size-(f+1))
      all_goals first
       | omega
       | (refine ⟨r.extract (f+1) r.size,pre++[⟨r.extract 0 f,hxf0⟩],HSZ.out.symm,by rw [HSZ.out]; omega,Lib.hid (by rw [HP.out,HPF.out]; simp),Lib.hid (HJ.out _ _ _ HJ3.out ?_),Lib.hid ⟨?_,?_,?_⟩⟩
          · exact zan ((Upd.refl [Bs] _).setCell (.inl (by simp)) _) (fun k hk=>hk) (fun k hk=>by simp at hk; subst hk; exact HD.out.1.cellsOnly)
          · exact HD.out.1.set 0 _
          · exact HD.out.2.1.setFar _ HN.out
          · exact HD.out.2.2.setFar _ HN2.out)
    · gi_wp2
      refine bodyPost_ret (results_none rfl _ _ _) rfl ?_
      exact ⟨⟨_,rfl⟩,.inr ⟨_,by rw [HP.out,HPF.out]; exact ⟨yL (r.extract (f+1) r.size),by simp⟩,hJx3⟩⟩
  · have HIX:=Lib.hid (fun w=>zbX r w hc)
    have HPF:=Lib.hid (Ka r hc)
    have hlen:pre.length<(yL s).length:=by rw [HP.out,HPF.out,List.length_append,List.length_map,List.length_cons]; omega
    obtain ⟨fn,tmps,assign,body,hy,hRd⟩:=HY.out pre ⟨r,by omega⟩ wr HJp.out hlen (by intro q hq; simp at hq; subst hq; exact hlt)
    clear hlen hc
    have HLT:=Lib.hid hlt
    clear hlt
    gi_wp2_with fail
    refine ⟨trivial,(callsIn_wide.2 (HIX.out _)).mono ?_⟩
    rintro e w2 ⟨rfl,rfl⟩
    gi_wp2
    refine hRd.mono ?_
    rintro e W3 (⟨rfl,hJ3,hk3⟩ | ⟨rfl,hJx3⟩)
    · gi_wp2
      go_end0
      exact ⟨⟨_,rfl⟩,.inl ⟨_,by rw [HP.out,HPF.out]; simp,hJ3⟩⟩
    · gi_wp2
      go_end0
      exact ⟨⟨_,rfl⟩,.inr ⟨_,by rw [HP.out,HPF.out]; simp,hJx3⟩⟩
end Go.Proofs.YtigjingielnaoaaGreatDoor
namespace Go.Proofs.YtigjingielnaoaaGreatDoor
open Go.RowKit Go.Shelf
attribute [local go_sem] Oper.semAt_some
theorem XT {P:Program} {c:Code} {Q:Exit→Act→World→Prop} {a:Act} {w:World} (h : ∀ fr,fr=a→c.wp P Q fr w):c.wp P Q a w:=h a rfl
theorem Upd.putObj' {fp:List Nat} {a w:World} (h:Upd fp a w) {D:Nat} (hD:a.heap.size≤D) (o:Obj):Upd fp a (w.putObj D o):=h.grown (grownBy_putObj' w D o) (fun k e=>by cases e; exact .inr hD)
theorem qO (w:World):Calls Tryz.prog 104 #[] w fun e w'=>e = .returned (.string { data := #[46,115,119,105,110,103,108,101] })∧w=w':=by
 go_enter Tryz.func104,Tryz.ntmps104
 go_wp2
 go_ret
 exact ⟨rfl,rfl⟩
theorem zbW (l:List Nat) (hl : ∀ x∈l,x<256):((zf l).toList==[46,115,119,105,110,103,108,101])=decide (l=vE):=by
 rw [yT,zz l hl]; rfl
theorem jD (s:ByteArray) : ∀ p∈zl (ze s),∀ x∈p,x<256:=fun p hp x hx=>yk s x (jJ _ p hp x hx)
theorem WG (s x:ByteArray) (h:x∈yL s):ze x∈zl (ze s):=by
 unfold yL at h
 obtain ⟨p,hp,rfl⟩:=List.mem_map.1 h
 rw [zz p (jD s p hp)]; exact hp
def zdE (pre:List Shs):Prop:=pre.length≤12 ∧ ∀ x∈pre,yh (ze x.1)=true
def zcx (pre:List Shs):Prop:=12<pre.length ∨ ∃ x∈pre,yh (ze x.1)=false
theorem zaS (s:ByteArray) (h1:s.size≤200) (h2:(zl (ze s)).headD []≠vE) (pre:List Shs) (hp:pre.map Subtype.val=yL s) (h:zdE pre):yl (ze s)=true:=by
 obtain ⟨h3,h4⟩:=h
 have hl:(zl (ze s)).length=pre.length:=by
  have:=congrArg List.length hp
  rw [List.length_map] at this; unfold yL at this; rw [List.length_map] at this; omega
 refine JY (by rw [zg]; exact h1) h2 (by omega) fun p hpm=>?_
 have hm:zf p∈pre.map Subtype.val:=by rw [hp]; unfold yL; exact List.mem_map_of_mem hpm
 obtain ⟨x,hx,hxe⟩:=List.mem_map.1 hm
 have:=h4 x hx
 rwa [hxe,zz p (jD s p hpm)] at this
theorem zdc (s:ByteArray) (pre:List Shs) (hp:pre.map Subtype.val <+: yL s) (h:zcx pre):yl (ze s)=false:=by
 rcases h with h | ⟨x,hx,hb⟩
 · have h1:=hp.length_le
   unfold yL at h1
   rw [List.length_map,List.length_map] at h1
   exact Jz (by omega)
 · exact Zn (WG s x.1 (hp.subset (List.mem_map_of_mem hx))) hb
theorem qv {fn:Func} {p:Tmp} (h:fn.results = #[.cell p 4]) (tmps:Array Value) (w:World) (g:Nat) (b:Bool) (hp:tmps.getD p undef = .pointer (some ⟨g,0,none⟩)) (hB:Blk w g [.bool b] 4) :
 (results fn tmps).run Tryz.prog w = .ok (.bool b) w:=by
 have hc:=hB.cell 0 rfl
 have hp2:tmps[p]?.getD undef = .pointer (some ⟨g,0,none⟩):=by rw [← hp]; simp
 simp [results,h,go_sem,hp2,hc]
def NrI (s:ByteArray) (w0:World) (bn br:Nat) (pre:List Shs) (W:World):Prop:=Blk W bn [.int .i64 (pre.length:Nat)] 3∧Blk W br [.bool false] 4∧Upd [] w0 W
theorem NrI.own {s:ByteArray} {w0:World} {bn br B:Nat} (hB:w0.heap.size≤B):OwnFrom B (NrI s w0 bn br):=fun p A C row hs hg hr=>by
 obtain ⟨h1,h2,h3⟩:=hs
 exact ⟨xD B bn (fun (_:Unit)=>_) _ () A C row h1 hg hr,xD B br (fun (_:Unit)=>_) _ () A C row h2 hg hr,vH B [] w0 hB () A C row h3 hg hr⟩
theorem NrI.w2 {s:ByteArray} {w0:World} {bn br bs:Nat} (h1:bn≠bs) (h2:br≠bs) (h3:w0.heap.size≤bs) : ∀ p A C,NrI s w0 bn br p A→Own2 [bs] A C→NrI s w0 bn br p C:=fun p A C hs hAC=>by
 obtain ⟨k1,k2,k3⟩:=hs
 exact ⟨k1.upd hAC.1 (by simpa using h1),k2.upd hAC.1 (by simpa using h2),k3.trans hAC.1 (fun k hk=>by simp at hk; subst hk; exact .inr h3)⟩
set_option maxRecDepth 100000 in
set_option maxHeartbeats 4000000 in
theorem vg (s:ByteArray) (w:World) (hs:s.size≤9223372036854775807):Calls Tryz.prog 63 #[.string s] w fun e w'=>e = .returned (.bool (yl (ze s)))∧Upd [] w w':=by
 have HC:=Lib.hid (fun w=>zej s w hs)
 have hhd : ∀ x∈(zl (ze s)).headD [],x<256:=jD s _ (by
  rw [qQ (ze s)]; simp)
 have HQ:=Lib.hid (zbW _ hhd)
 have HLN:=Lib.hid (zg s)
 clear hhd
 refine (callsIn_wide (n:=9)).1 ?_
 refine callsIn_of_wp_marks Tryz.func63 rfl trivial ?_ rfl
 simp only [Tryz.ntmps63,List.size_toArray,List.length_cons,List.length_nil,Nat.reduceAdd,Nat.reduceSub,Array.replicate_succ,Array.replicate_zero,List.push_toArray,List.append_toArray,List.nil_append,List.cons_append]
 refine wpIn_wide.2 ?_
 let QQ:Exit→Act→World→Prop:=bodyPost Tryz.prog Tryz.f63 (fun _ _=>True)
 by_cases h200:200<s.size
 · have HE:=Lib.hid (JJ (l:=ze s) (by rw [HLN.out]; exact h200))
   generalize (zl (ze s)).headD []=hd at *
   go_wp2_with fail
   refine (HC.out _).mono ?_
   rintro e w1 ⟨⟨r,b,rfl⟩,hU1⟩
   have hBr:Blk w1 w.heap.size [.bool false] 4:=(Blk.new w [.bool false] 4).upd hU1 (by simp)
   have cr:=hBr.cell 0 rfl
   have fr:=hBr.frz 0
   have HBr:=Lib.hid hBr
   have HUU:=Lib.hid (((Upd.refl [] w).alloc (.cells #[.bool false] 4)).then hU1)
   clear hU1 hBr
   go_wp2
   exact ⟨.bool false,qv rfl _ _ w.heap.size false rfl (HBr.out.set 0 _),by rw [HE.out],HUU.out.setCell (.inr (Nat.le_refl _)) _⟩
 · by_cases hres:(zl (ze s)).headD []=vE
   · have HE:=Lib.hid (Zw (l:=ze s) hres)
     have t1:=HQ.out.trans (decide_eq_true hres)
     clear hres HQ
     generalize (zl (ze s)).headD []=hd at *
     go_wp2_with fail
     refine (HC.out _).mono ?_
     rintro e w1 ⟨⟨r,b,rfl⟩,hU1⟩
     have hBr:Blk w1 w.heap.size [.bool false] 4:=(Blk.new w [.bool false] 4).upd hU1 (by simp)
     have cr:=hBr.cell 0 rfl
     have fr:=hBr.frz 0
     have HBr:=Lib.hid hBr
     have HUU:=Lib.hid (((Upd.refl [] w).alloc (.cells #[.bool false] 4)).then hU1)
     clear hU1 hBr
     go_wp2_with (go_at_call 104; refine (qO _).mono ?_; rintro e w' ⟨rfl,rfl⟩)
     exact ⟨.bool false,qv rfl _ _ w.heap.size false rfl (HBr.out.set 0 _),by rw [HE.out],HUU.out.setCell (.inr (Nat.le_refl _)) _⟩
   · have HN:=Lib.hid hres
     have t1:=HQ.out.trans (decide_eq_false hres)
     have hs2:s.size≤200:=by omega
     have HDN:=Lib.hid (zaS s hs2 hres)
     have HNT:=Lib.hid (zdc s)
     clear hres HQ HN
     generalize (zl (ze s)).headD []=hd at *
     go_wp2_with fail
     refine (HC.out _).mono ?_
     rintro e w1 ⟨⟨r,b,rfl⟩,hU1⟩
     have HBr:Hid (Blk w1 w.heap.size [.bool false] 4):=Lib.hid ((Blk.new w [.bool false] 4).upd hU1 (by simp))
     have HUU:=Lib.hid (((Upd.refl [] w).alloc (.cells #[.bool false] 4)).then hU1)
     clear hU1
     go_wp2_with (go_at_call 104; refine (qO _).mono ?_; rintro e w' ⟨rfl,rfl⟩)
     have HBn:Hid (Blk (w1.alloc (.cells #[.int .i64 0] 3)) w1.heap.size [.int .i64 (([]:List Shs).length:Nat)] 3):=Lib.hid (Blk.new w1 [.int .i64 0] 3)
     have hA2:Upd [] w1 (w1.alloc (.cells #[.int .i64 0] 3)):=(Upd.refl _ _).alloc _
     have HBr2:=Lib.hid (HBr.out.upd hA2 (by simp))
     have HU2:=Lib.hid (HUU.out.then hA2)
     have hz2:w1.heap.size<(w1.alloc (.cells #[.int .i64 0] 3)).heap.size:=by simp
     clear hA2 HUU
     have hlt0:=HBr.out.lt
     have hle0:w.heap.size≤w1.heap.size:=by omega
     clear HBr
     generalize w1.alloc (.cells #[.int .i64 0] 3)=w2 at *
     obtain ⟨bn,hbn⟩ : ∃ bn,w1.heap.size=bn:=⟨_,rfl⟩
     rw [hbn] at HBn hz2 hlt0 hle0 ⊢
     clear hbn
     go_wp2_with fail
     refine (Yw s w2).mono ?_
     rintro e w3 ⟨rfl,hw3⟩
     have HS3:Hid (Blk w3 w2.heap.size [.string s] 9∧Blk w3 (w2.heap.size+1) [.string { data := #[47] }] 9∧Blk w3 (w2.heap.size+2) [.int .i64 0] 3):=Lib.hid (by
      rw [hw3]
      refine ⟨((Blk.new w2 [.string s] 9).alloc _).alloc _,?_,?_⟩
      · have:=(Blk.new (w2.alloc (.cells #[.string s] 9)) [.string { data := #[47] }] 9).alloc (.cells #[.int .i64 0] 3)
        rw [World.size_alloc] at this; exact this
      · have:=Blk.new ((w2.alloc (.cells #[.string s] 9)).alloc (.cells #[.string { data := #[47] }] 9)) [.int .i64 0] 3
        rw [World.size_alloc,World.size_alloc] at this; exact this)
     have hA3:Upd [] w2 w3:=by rw [hw3]; exact (((Upd.refl _ _).alloc _).alloc _).alloc _
     have hz3:w3.heap.size=w2.heap.size+3:=by rw [hw3]; simp
     have HBn3:=Lib.hid (HBn.out.upd hA3 (by simp))
     have HBr3:=Lib.hid (HBr2.out.upd hA3 (by simp))
     have HU3:=Lib.hid (HU2.out.then hA3)
     clear hw3 hA3 HBn HBr2 HU2
     obtain ⟨bs,hbs⟩ : ∃ bs,w2.heap.size=bs:=⟨_,rfl⟩
     rw [hbs] at HS3 hz3 hz2 ⊢
     clear hbs
     have hw30:w.heap.size≤w3.heap.size:=HU3.out.size
     go_wp2_with fail
     refine XT ?_
     intro fr hfr
     refine Code.wp_mono (Q:=fun e a' W=>(e = .normal∨e = .ret) ∧ ∃ D pre,a' = { fr with defers := { target := .collected D,args := #[] }::fr.defers }∧w3.heap.size≤D∧W.heap[D]? =some (.deferred (some []))∧Blk W w.heap.size [.bool false] 4∧Upd [] w W ∧
      Hid ((e = .normal∧pre.map Subtype.val=yL s∧zdE pre)∨(e = .ret∧pre.map Subtype.val <+: yL s∧zcx pre))) ?cont ((wpIn_wide (n:=9)).1 ?main)
     case main =>
      refine zcc (gf:=147) (lb := #[.pointer (some ⟨bs+1,0,none⟩),.pointer (some ⟨bs,0,none⟩),.pointer (some ⟨bs+2,0,none⟩)]) (by rw [hfr]; rfl) (enters_of Tryz.func147 (by kernel_rfl) rfl)
       (zbT bs (bs+1) (bs+2) s w3 HS3.out.1 HS3.out.2.1 HS3.out.2.2 ⟨by omega,by omega⟩ (by omega)) (by intro k hk; simp at hk; omega) (fun _=>rfl)
       (fun pre W=>NrI s w bn w.heap.size pre W∧Hid (zdE pre))
       (fun c pre W=>(c = .ret∧Hid (zcx pre))∧NrI s w bn w.heap.size pre W)
       ?act
       (OwnFrom.and (NrI.own hw30) (ownFrom_pure _ _)) (fun c=>OwnFrom.and (ownFrom_pure _ _) (NrI.own hw30))
       ?iw ?ixw ⟨⟨HBn3.out,HBr3.out,HU3.out⟩,Lib.hid ⟨by simp,by simp⟩⟩ ?assign ?body ?done ?stop
      case assign =>
       intro L1 x W K hK
       subst hfr
       gi_wp2
       exact hK
      case iw =>
       rintro s' A C ⟨h1,h2⟩ hAC
       exact ⟨NrI.w2 (by omega) (by omega) (by omega) _ A C h1 hAC,h2⟩
      case ixw =>
       rintro c s' A C ⟨h1,h2⟩ hAC
       exact ⟨h1,NrI.w2 (by omega) (by omega) (by omega) _ A C h2 hAC⟩
      case body =>
       rintro L1 pre x W hsz hfp ⟨⟨hn,hr,hU⟩,hA⟩ hlt
       subst hfr
       have n0:=hn.cell 0 rfl
       have nf:=hn.frz 0
       have r0:=hr.cell 0 rfl
       have rf:=hr.frz 0
       have HNb:=Lib.hid hn
       have HRb:=Lib.hid hr
       have HUb:=Lib.hid hU
       have hp0:(pre.length:Int)≤12:=by have:=hA.out.1; omega
       have HPT:=Lib.hid (fun w=>zcA x.1 w x.2)
       clear hn hr hU hlt hfp
       have hbw:w.heap.size≠bn:=by omega
       have r1:(W.setCell ⟨bn,0,none⟩ (.int .i64 ((pre.length:Int)+1))).cell? ⟨w.heap.size,0,none⟩=some (.bool false):=(HRb.out.setFar (a:=⟨bn,0,none⟩) _ hbw).cell 0 rfl
       have rf1:(W.setCell ⟨bn,0,none⟩ (.int .i64 ((pre.length:Int)+1))).frozen? ⟨w.heap.size,0,none⟩=false:=(HRb.out.setFar (a:=⟨bn,0,none⟩) _ hbw).frz 0
       have hn1:Blk (W.setCell ⟨bn,0,none⟩ (.int .i64 ((pre.length:Int)+1))) bn [.int .i64 ((pre++[x]).length:Nat)] 3:=by
        have:=HNb.out.set 0 (.int .i64 ((pre.length:Int)+1))
        rw [List.length_append]; exact this
       have hr1:=HRb.out.setFar (a:=⟨bn,0,none⟩) (.int .i64 ((pre.length:Int)+1)) hbw
       have hU1:Upd [] w (W.setCell ⟨bn,0,none⟩ (.int .i64 ((pre.length:Int)+1))):=HUb.out.setCell (.inr (by simp; omega)) _
       have hUx:Upd [bn] W (W.setCell ⟨bn,0,none⟩ (.int .i64 ((pre.length:Int)+1))):=(Upd.refl _ _).setCell (.inl (by simp)) _
       have hK1:KeepsFrom w3.heap.size W (W.setCell ⟨bn,0,none⟩ (.int .i64 ((pre.length:Int)+1))):=(hUx.others (fun k hk=>by simp at hk; subst hk; exact HNb.out.cellsOnly)).from _
       have hKp:Keep [bs,bs+1,bs+2] W (W.setCell ⟨bn,0,none⟩ (.int .i64 ((pre.length:Int)+1))):=Keep.of_upd hUx (fun k hk=>by simp at hk; constructor<;>(try simp)<;>omega)
       have HN1:=Lib.hid hn1
       have HR1:=Lib.hid hr1
       have HU1:=Lib.hid hU1
       have HK1:=Lib.hid hK1
       have HKP:=Lib.hid hKp
       have hlt1:bn<(W.setCell ⟨bn,0,none⟩ (.int .i64 ((pre.length:Int)+1))).heap.size:=hn1.lt
       clear hn1 hr1 hU1 hUx hK1 hKp
       cases hpo:yh (ze x.1) with
       | true =>
         rw [hpo] at HPT
         by_cases h12:pre.length+1≤12
         · have h12':(pre.length:Int)+1≤12:=by omega
           have HAN:Hid (zdE (pre++[x])):=Lib.hid ⟨by simp; omega,fun y hy=>by
            rcases List.mem_append.1 hy with hy | hy
            · exact hA.out.2 y hy
            · simp at hy; subst hy; exact hpo⟩
           clear hpo h12
           gi_wp2_with fail
           refine ⟨trivial,(CallsIn.inRound L1 (callsIn_wide.2 (HPT.out _))).mono ?_⟩
           rintro e W2 ⟨rfl,rfl⟩
           gi_wp2
           exact ⟨HK1.out,HKP.out,⟨HN1.out,HR1.out,HU1.out⟩,HAN⟩
         · have h12':12<(pre.length:Int)+1:=by omega
           have HAN:Hid (zcx (pre++[x])):=Lib.hid (.inl (by simp; omega))
           clear hpo h12
           gi_wp2_with fail
           refine ⟨trivial,(CallsIn.inRound L1 (callsIn_wide.2 (HPT.out _))).mono ?_⟩
           rintro e W2 ⟨rfl,rfl⟩
           gi_wp2
           have hUy:Upd [w.heap.size] (W.setCell ⟨bn,0,none⟩ (.int .i64 ((pre.length:Int)+1))) ((W.setCell ⟨bn,0,none⟩ (.int .i64 ((pre.length:Int)+1))).setCell ⟨w.heap.size,0,none⟩ (.bool false)):=(Upd.refl _ _).setCell (.inl (by simp)) _
           refine ⟨HK1.out.trans ((hUy.others (fun k hk=>by simp at hk; subst hk; exact HR1.out.cellsOnly)).from _),⟨rfl,HAN⟩,HN1.out.setFar _ (by simp; omega),HR1.out.set 0 _,HU1.out.setCell (.inr (Nat.le_refl _)) _⟩
       | false =>
         rw [hpo] at HPT
         have HAN:Hid (zcx (pre++[x])):=Lib.hid (.inr ⟨x,by simp,hpo⟩)
         clear hpo
         gi_wp2_with fail
         refine ⟨trivial,(CallsIn.inRound L1 (callsIn_wide.2 (HPT.out _))).mono ?_⟩
         rintro e W2 ⟨rfl,rfl⟩
         gi_wp2
         have hUy:Upd [w.heap.size] (W.setCell ⟨bn,0,none⟩ (.int .i64 ((pre.length:Int)+1))) ((W.setCell ⟨bn,0,none⟩ (.int .i64 ((pre.length:Int)+1))).setCell ⟨w.heap.size,0,none⟩ (.bool false)):=(Upd.refl _ _).setCell (.inl (by simp)) _
         refine ⟨HK1.out.trans ((hUy.others (fun k hk=>by simp at hk; subst hk; exact HR1.out.cellsOnly)).from _),⟨rfl,HAN⟩,HN1.out.setFar _ (by simp; omega),HR1.out.set 0 _,HU1.out.setCell (.inr (Nat.le_refl _)) _⟩
      case done =>
       rintro D xs W hD hxs ⟨⟨hn,hr,hU⟩,hA⟩ hK
       exact ⟨.inl rfl,D,_,rfl,hD,hK,hr,hU,Lib.hid (.inl ⟨rfl,hxs,hA.out⟩)⟩
      case stop =>
       rintro D c pre W hD hpre ⟨⟨rfl,hA⟩,hn,hr,hU⟩ hK
       refine wpIn_ret ?_
       exact ⟨.inr rfl,D,pre,rfl,hD,hK,hr,hU,Lib.hid (.inr ⟨rfl,hpre,hA.out⟩)⟩
     case cont =>
      rintro e a' wz ⟨he,D,pre,rfl,hD,hDk,hr,hU,HP⟩
      subst hfr
      have HR:=Lib.hid hr
      have HU:=Lib.hid hU
      have r0:=hr.cell 0 rfl
      have rf:=hr.frz 0
      have HDk:=Lib.hid hDk
      have hwD:w.heap.size≤D:=by omega
      have hDlt:D<wz.heap.size:=(Array.getElem?_eq_some_iff.1 hDk).1
      clear hr hU hDk
      rcases HP.out with ⟨rfl,hpp,hA⟩ | ⟨rfl,hpp,hA⟩
      · have HE:=Lib.hid (HDN.out pre hpp hA)
        clear HP hpp hA he
        go_wp2
        have hk9:(wz.setCell ⟨w.heap.size,0,none⟩ (.bool true)).heap[D]? =some (.deferred (some [])):=(Below.heap_setCell _ _ _ _ (by simp; omega)).trans HDk.out
        refine ⟨by simp,.inl ⟨_,_,rfl,run_takeDeferred hk9,?_⟩⟩
        have hB9:Blk ((wz.setCell ⟨w.heap.size,0,none⟩ (.bool true)).putObj D (.deferred none)) w.heap.size [.bool true] 4:=(World.putObj_heap_other (by omega)).trans (HR.out.set 0 _)
        exact ⟨.bool true,qv rfl _ _ w.heap.size true rfl hB9,by rw [HE.out],(HU.out.setCell (.inr (Nat.le_refl _)) _).putObj' hwD _⟩
      · have HE:=Lib.hid (HNT.out pre hpp hA)
        clear HP hpp hA he
        go_wp2
        refine ⟨by simp,.inl ⟨_,_,rfl,run_takeDeferred HDk.out,?_⟩⟩
        have hB9:Blk (wz.putObj D (.deferred none)) w.heap.size [.bool false] 4:=(World.putObj_heap_other (by omega)).trans HR.out
        exact ⟨.bool false,qv rfl _ _ w.heap.size false rfl hB9,by rw [HE.out],HU.out.putObj' hwD _⟩
end Go.Proofs.YtigjingielnaoaaGreatDoor
namespace Go.Proofs.YtigjingielnaoaaGreatDoor
open Go.RowKit
theorem Yj:(Tryz.prog.info? 9).map (fun i=>(i.zero,i.size,i.bytes))=some (some (.string .empty),1,16):=by kernel_rfl
def zc7 (l:List Nat):Value := .string (zf l)
theorem KT (s:ByteArray) (cur:List Nat) (i:Nat) (h:i<s.size):zf cur++s.extract i (i+1)=zf (cur++[s[i].toNat]):=by
 rw [← xh]
 congr 1
 rw [← zw (s.extract i (i+1)),zr]
 congr 1
 rw [show i+1-i=1 by omega,List.drop_eq_getElem_cons (by rw [zg]; exact h),yE s i h]; rfl
set_option maxRecDepth 100000 in
set_option maxHeartbeats 4000000 in
theorem Yd (s:ByteArray) (w:World) (hs:s.size≤1100000):Calls Tryz.prog 68 #[.string s] w fun e w' =>
 ∃ g cap,e = .returned (.slice (some ⟨g,0,none⟩) (zl (ze s)).length cap)∧w.heap.size≤g∧Row w' 9 1 (.slice (some ⟨g,0,none⟩) (zl (ze s)).length cap) (zl (ze s)).length ((zl (ze s)).map zc7)∧Upd [] w w':=by
 obtain ⟨i0,hi,hz0,hz1,hz2⟩:=info_parts Yj
 go_enter Tryz.func68,Tryz.ntmps68
 go_wp2
 go_loopg [3,4,5] s.size (fun g v t c wr => ∃ (i:Nat) (done:List (List Nat)) (cur:List Nat),i≤s.size∧done.length≤i∧cur.length≤i∧t = .string (zf cur)∧c = .int .i64 (i:Nat)∧g=s.size-i∧Hid (zl (ze s)=done++kz cur (zl ((ze s).drop i)))∧Hid (Row wr 9 1 v done.length (done.map zc7))∧Hid (∀ b,v.ownBlock=some b→w.heap.size≤b)∧Hid (Upd [] w wr))
 case atStart=>exact ⟨0,[],[],Nat.zero_le _,Nat.zero_le _,Nat.zero_le _,rfl,rfl,rfl,Lib.hid (by rw [List.drop_zero,Xk]; rfl),Lib.hid (Row.nil _ _ _),Lib.hid (by simp [Value.ownBlock]),Lib.hid (Upd.refl _ _)⟩
 case round =>
  obtain ⟨i,done,cur,hi1,hd,hcu,rfl,rfl,rfl,HS,HR,HB,HU⟩:=hrel
  obtain ⟨va,vc,hv⟩:=HR.out.form
  subst hv
  by_cases hc:i<s.size
  · have hbl:s[i].toNat<256:=s[i].toNat_lt
    have HC:=Lib.hid (KT s cur i hc)
    have hdr:(ze s).drop i=s[i].toNat::(ze s).drop (i+1):=by
     rw [List.drop_eq_getElem_cons (by rw [zg]; exact hc),yE s i hc]
    have HD:=Lib.hid hdr
    have hsz:(zf cur).size=cur.length:=zh cur
    clear hdr
    by_cases h47:s[i].toNat=47
    · have t1:((s[i].toNat:Int)==47)=true:=by rw [beq_iff_eq]; omega
      have HS2:Hid (zl (ze s)=(done++[cur])++kz [] (zl ((ze s).drop (i+1)))):=Lib.hid (by rw [HS.out,HD.out,h47,Vt]; simp)
      clear h47 HS HC HD
      go_wp2_with (at_builtin; refine zE _ rfl _ _ 33 rfl 9 i0 _ 1 16 Tryz.underlying33 hi hz0 hz1 hz2 rfl (by omega) (.slice va done.length vc) done.length _ rfl (HR.out.alloc _) ⟨wr.heap.size,0,none⟩ 1 1 [_] rfl rfl (World.news_of_block (cs := #[_]) (t:=9) (fr:=(0,0)) (heap_alloc_new _ _)) (by simp [Value.oneCell']) (by unfold maxLen; omega) (by omega) ?_)
      rintro v9 w9 hR9 hU9 hT9
      obtain ⟨va9,vc9,rfl⟩:=hR9.form
      have hB9 : ∀ b,(Value.slice va9 (done.length+1) vc9).ownBlock=some b→w.heap.size≤b:=fun b hb=>by
       have:=HU.out.size
       rcases hT9 with e | ⟨g,e1,e2⟩
       · exact HB.out b (by rw [← e]; exact hb)
       · rw [hb] at e1; simp at e1 e2; omega
      have HF:Hid (Row w9 9 1 (.slice va9 (done.length+1) vc9) (done++[cur]).length ((done++[cur]).map zc7)∧(∀ b,(Value.slice va9 (done.length+1) vc9).ownBlock=some b→w.heap.size≤b)∧Upd [] w w9):=Lib.hid ⟨by
       rw [List.length_append,List.map_append]; exact hR9,hB9,(HU.out.then ((Upd.refl _ _).alloc _)).trans hU9 (fun k hk => .inr (HB.out k (by simpa using hk)))⟩
      clear hR9 hU9 hT9 hB9 HR HB HU
      go_wp2
      go_roundg (s.size-(i+1))
      all_goals first
       | omega
       | exact ⟨i+1,done++[cur],[],by omega,by simp; omega,by simp,rfl,by go_num,rfl,HS2,Lib.hid HF.out.1,Lib.hid HF.out.2.1,Lib.hid HF.out.2.2⟩
    · have t1:((s[i].toNat:Int)==47)=false:=by rw [beq_eq_false_iff_ne]; omega
      have HS2:Hid (zl (ze s)=done++kz (cur++[s[i].toNat]) (zl ((ze s).drop (i+1)))):=Lib.hid (by rw [HS.out,HD.out,Kt _ _ _ h47])
      clear h47 HS HD
      go_wp2
      go_roundg (s.size-(i+1))
      all_goals first
       | omega
       | exact ⟨i+1,done,cur++[s[i].toNat],by omega,by omega,by simp; omega,by rw [HC.out],by go_num,rfl,HS2,HR,HB,HU⟩
  · have hlen:=zg s
    have HS2:Hid (zl (ze s)=done++[cur]):=Lib.hid (by rw [HS.out,List.drop_of_length_le (by omega)]; simp [zl,kz])
    clear HS hlen
    go_wp2_with (at_builtin; refine zE _ rfl _ _ 33 rfl 9 i0 _ 1 16 Tryz.underlying33 hi hz0 hz1 hz2 rfl (by omega) (.slice va done.length vc) done.length _ rfl (HR.out.alloc _) ⟨wr.heap.size,0,none⟩ 1 1 [_] rfl rfl (World.news_of_block (cs := #[_]) (t:=9) (fr:=(0,0)) (heap_alloc_new _ _)) (by simp [Value.oneCell']) (by unfold maxLen; omega) (by omega) ?_)
    rintro v9 w9 hR9 hU9 hT9
    obtain ⟨g,cap,rfl,hg1,hg2⟩:=hR9.form' (by omega)
    have hB9:w.heap.size≤g:=by
     have:=HU.out.size
     rcases hT9 with e | ⟨g',e1,e2⟩
     · exact HB.out g (by rw [← e]; rfl)
     · simp [Value.ownBlock] at e1 e2; omega
    have HF:=Lib.hid hR9
    have HUU:=Lib.hid ((HU.out.then ((Upd.refl _ _).alloc _)).trans hU9 (fun k hk => .inr (HB.out k (by simpa using hk))))
    clear hR9 hU9 hT9 HR HB HU
    go_wp2
    go_ret
    refine ⟨g,cap,?_,hB9,?_,HUU.out⟩
    · rw [HS2.out,List.length_append]; rfl
    · rw [HS2.out,List.length_append,List.map_append]; exact HF.out
theorem zcN (l:List Nat):((zl l).map zc7)[0]? =some (.string (zf ((zl l).headD []))):=by
 rw [qQ l]; rfl
set_option maxRecDepth 100000 in
set_option maxHeartbeats 4000000 in
theorem Xa (s:ByteArray) (w:World) (hs:s.size≤1100000):Calls Tryz.prog 30 #[.string s] w fun e w'=>e = .returned (.bool (yl (ze s)))∧Upd [] w w':=by
 have HSP:=Lib.hid (Yd s w hs)
 have hhd : ∀ x∈(zl (ze s)).headD [],x<256:=jD s _ (by
  rw [qQ (ze s)]; simp)
 have HQ:=Lib.hid (zbW _ hhd)
 have HLN:=Lib.hid (zg s)
 have HH:=Lib.hid (zcN (ze s))
 have HLT:=Lib.hid (jD s)
 have hpl:=JX (ze s)
 rw [zg] at hpl
 have HPL:=Lib.hid (jw (ze s))
 have hpos:0<(zl (ze s)).length:=List.length_pos_iff.2 (Xb _)
 clear hhd
 go_enter Tryz.func30,Tryz.ntmps30
 go_wp2_with fail
 refine HSP.out.mono ?_
 rintro e w1 ⟨g,cap,rfl,hg,hR,hU⟩
 have HR:=Lib.hid hR
 have HU:=Lib.hid hU
 clear hR hU HSP
 obtain ⟨P,hP⟩ : ∃ P,zl (ze s)=P:=⟨_,rfl⟩
 have HP:=Lib.hid hP
 rw [hP] at HR HQ HLT HPL HH hpos hpl ⊢
 clear hP
 by_cases h200:200<s.size
 · have HE:=Lib.hid (JJ (l:=ze s) (by rw [HLN.out]; exact h200))
   go_wp2
   go_ret
   exact ⟨by rw [HE.out]; rfl,HU.out⟩
 · by_cases h12:12<P.length
   · have HE:=Lib.hid (Jz (l:=ze s) (by rw [HP.out]; exact h12))
     go_wp2
     go_ret
     exact ⟨by rw [HE.out]; rfl,HU.out⟩
   · have c0:=HR.out.cell 0 HH.out
     by_cases hres:P.headD []=vE
     · have HE:=Lib.hid (Zw (l:=ze s) (by rw [HP.out]; exact hres))
       have t1:=HQ.out.trans (decide_eq_true hres)
       clear hres
       generalize P.headD []=hd at *
       go_wp2
       go_ret
       exact ⟨by rw [HE.out]; rfl,HU.out⟩
     · have t1:=HQ.out.trans (decide_eq_false hres)
       have HNE:Hid ((zl (ze s)).headD []≠vE):=Lib.hid (by rw [HP.out]; exact hres)
       clear hres
       generalize P.headD []=hd at *
       go_wp2
       go_loopg [24] P.length (fun g' t wr => ∃ k:Nat,k≤P.length∧t = .int .i64 (k:Nat)∧g'=P.length-k∧Hid (∀ (i:Nat) p,i<k→P[i]? =some p→yh p=true)∧w1=wr)
       case atStart=>exact ⟨0,Nat.zero_le _,rfl,rfl,Lib.hid (fun i p h=>by omega),rfl⟩
       case round =>
        obtain ⟨k,hk,rfl,rfl,HA,rfl⟩:=hrel
        clear c0 t1
        by_cases hc:k<P.length
        · have hgk:(P.map zc7)[k]? =some (.string (zf P[k])):=by rw [List.getElem?_map,List.getElem?_eq_getElem hc]; rfl
          have ck:=HR.out.cell k hgk
          have hmem:P[k]∈P:=List.getElem_mem hc
          have hpz:(zf P[k]).size≤1100000:=by rw [zh]; have:=HPL.out _ hmem; have:=HLN.out; omega
          have HPT:=Lib.hid (fun w=>zaC (zf P[k]) w hpz)
          rw [zz _ (HLT.out _ hmem)] at HPT
          have HM:Hid (P[k]∈zl (ze s)):=Lib.hid (by rw [HP.out]; exact hmem)
          have HGK:Hid (P[k]? =some P[k]):=Lib.hid (List.getElem?_eq_getElem hc)
          clear hgk hmem hpz
          obtain ⟨p,hp⟩ : ∃ p,P[k]=p:=⟨_,rfl⟩
          rw [hp] at ck HPT HM HGK
          clear hp
          cases hpo:yh p with
          | true =>
            rw [hpo] at HPT
            have HA2:Hid (∀ (i:Nat) p,i<k+1→P[i]? =some p→yh p=true):=Lib.hid (fun i q h1 h2=>by
             by_cases e:i=k
             · subst e; rw [HGK.out] at h2; simp at h2; subst h2; exact hpo
             · exact HA.out i q (by omega) h2)
            clear hpo HA HM HGK
            go_wp2_with (go_at_call 69; refine (HPT.out _).mono ?_; rintro e w' ⟨rfl,rfl⟩)
            go_roundg (P.length-(k+1))
            all_goals first
             | omega
             | exact ⟨k+1,by omega,by go_num,rfl,HA2,rfl⟩
          | false =>
            rw [hpo] at HPT
            have HE:=Lib.hid (Zn HM.out hpo)
            clear hpo HA HM HGK
            go_wp2_with (go_at_call 69; refine (HPT.out _).mono ?_; rintro e w' ⟨rfl,rfl⟩)
            go_ret
            exact ⟨by rw [HE.out]; rfl,HU.out⟩
        · have HE:Hid (yl (ze s)=true):=Lib.hid (JY (by rw [HLN.out]; omega) HNE.out (by rw [HP.out]; omega) (fun p hp=>by
           rw [HP.out] at hp
           obtain ⟨i,hi,e⟩:=List.getElem_of_mem hp
           exact HA.out i p (by omega) (by rw [List.getElem?_eq_getElem hi,e])))
          clear HA
          go_wp2
          go_ret
          exact ⟨by rw [HE.out]; rfl,HU.out⟩
end Go.Proofs.YtigjingielnaoaaGreatDoor
