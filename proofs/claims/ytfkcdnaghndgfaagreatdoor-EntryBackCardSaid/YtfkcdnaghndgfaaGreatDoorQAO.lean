/- Package strings: SplitSeq at "/": the iterator's contract. -/
import Derived.Test.YtfkcdnaghndgfaaGreatDoorQAN
import Derived.RangeFuncOwn
import Derived.Test.YtfkcdnaghndgfaaGreatDoorQAA
import Derived.WalkKit
import Derived.Handy
import Derived.Outline
import Derived.BigQuiet
import Derived.Deep.CutBlock
import Derived.Deep.DeepCutAuto
import Derived.Deep.DeepFit
import Derived.Deep.Light
import Derived.Deep.LoopGhost
import Derived.Deep.QuietTactic
import Derived.Deep.RegionHeld3
import Derived.Deep.RegionLaw
import Derived.IntWalk
import Derived.Laws.BitsAllLaws
import Derived.Lib.MinMax
import Derived.StillTailTactics
import Derived.WalkSpells
import Derived.Lib.Hide
set_option linter.unusedVariables false
set_option linter.unusedSimpArgs false
set_option linter.unusedSectionVars false
namespace Go.Proofs.YtfkcdnaghndgfaaGreatDoor
open Go.RowKit Go.Shelf
attribute [local go_sem] Oper.semAt_some
def yI (s:ByteArray):List ByteArray:=(zw (zc s)).map zf
theorem VO (s:ByteArray) (h:zV (zc s)<s.size):yI s=s.extract 0 (zV (zc s))::yI (s.extract (zV (zc s)+1) s.size):=by
 unfold yI
 rw [kZ _ (by rw [zd]; exact h),List.map_cons,← vh,zF,List.take_of_length_le (by rw [List.length_drop,zd]; omega)]
theorem zaB (s:ByteArray) (h : ¬ zV (zc s)<s.size):yI s=[s]:=by
 unfold yI
 rw [vN _ (by rw [zd]; exact h),List.map_cons,zx]; rfl
abbrev Shs := { x:ByteArray // x.size≤9223372036854775807 }
theorem KI (s:ByteArray) (w:World):Calls Tryz.prog 133 #[.string s,.string { data := #[47] }] w fun e w' =>
 e = .returned (.func (.func 201) #[] #[.pointer (some ⟨w.heap.size+1,0,none⟩),.pointer (some ⟨w.heap.size,0,none⟩),.pointer (some ⟨w.heap.size+2,0,none⟩)]) ∧
 w'=((w.alloc (.cells #[.string s] 9)).alloc (.cells #[.string { data := #[47] }] 9)).alloc (.cells #[.int .i64 0] 3):=by
 have h1:Calls Tryz.prog 169 #[.string s,.string { data := #[47] },.int .i64 0] w fun e w' =>
  e = .returned (.func (.func 201) #[] #[.pointer (some ⟨w.heap.size+1,0,none⟩),.pointer (some ⟨w.heap.size,0,none⟩),.pointer (some ⟨w.heap.size+2,0,none⟩)]) ∧
  w'=((w.alloc (.cells #[.string s] 9)).alloc (.cells #[.string { data := #[47] }] 9)).alloc (.cells #[.int .i64 0] 3):=by
  go_enter Tryz.func169,Tryz.ntmps169
  go_wp2
  go_ret
  exact ⟨rfl,rfl⟩
 go_enter Tryz.func133,Tryz.ntmps133
 go_wp2_with (go_at_call 169; refine h1.mono ?_; rintro e w' ⟨rfl,rfl⟩)
 go_ret
 exact ⟨rfl,rfl⟩
set_option maxRecDepth 100000 in
set_option maxHeartbeats 2000000 in
theorem zeZ (Bs Bq Bv:Nat) (s:ByteArray) (w:World) (hB:Blk w Bs [.string s] 9) (hQ:Blk w Bq [.string { data := #[47] }] 9) (hV:Blk w Bv [.int .i64 0] 3) (hne:Bq≠Bs∧Bv≠Bs) (hs:s.size≤9223372036854775806) :
 zh9 Tryz.prog 201 #[.pointer (some ⟨Bq,0,none⟩),.pointer (some ⟨Bs,0,none⟩),.pointer (some ⟨Bv,0,none⟩)] (fun x:Shs => #[Value.string x.1]) [Bs] [Bs,Bq,Bv] (fun xs=>xs.map Subtype.val=yI s) (fun pre=>pre.map Subtype.val <+: yI s) (yI s).length w:=by
 intro l J Jx W hU hz hJ hJx hY h0
 have b1:Blk W Bs [.string s] 9:=hB.upd hU (by simp)
 have b2:Blk W Bq [.string { data := #[47] }] 9:=hQ.upd hU (by simp)
 have b3:Blk W Bv [.int .i64 0] 3:=hV.upd hU (by simp)
 have HJ:=Lib.hid hJ
 have HY:=Lib.hid hY
 have HJ0:=Lib.hid h0
 clear hJ hY h0 hJx hU hz hB hQ hV
 have HB:Hid (Blk W Bs [.string s] 9∧Blk W Bq [.string { data := #[47] }] 9∧Blk W Bv [.int .i64 0] 3):=Lib.hid ⟨b1,b2,b3⟩
 have cq0:=b2.cell 0 rfl
 clear b1 b2 b3
 obtain ⟨hq1,hq2⟩:=hne
 have HN:=Lib.hid hq1
 have HN2:=Lib.hid hq2
 clear hq1 hq2
 refine callsIn_of_wp Tryz.func201 rfl trivial ?_ rfl
 simp only [Tryz.ntmps201,List.size_toArray,List.length_cons,List.length_nil,Nat.reduceAdd,Nat.reduceSub,Array.replicate_succ,Array.replicate_zero,List.push_toArray,List.append_toArray,List.nil_append,List.cons_append]
 gi_wp2
 clear cq0
 gi_loopg [] s.size (fun g wr => ∃ r:ByteArray,∃ pre:List Shs,g=r.size∧r.size≤s.size∧Hid (yI s=pre.map Subtype.val++yI r)∧Hid (J pre wr)∧Hid (Blk wr Bs [.string r] 9∧Blk wr Bq [.string { data := #[47] }] 9∧Blk wr Bv [.int .i64 0] 3))
 case atStart=>exact ⟨s,[],rfl,Nat.le_refl _,Lib.hid rfl,HJ0,HB⟩
 case round =>
  obtain ⟨r,pre,rfl,hrs,HP,HJp,HBk⟩:=hrel
  clear HB HJ0
  have hr1:r.size≤9223372036854775806:=by omega
  have c1:=HBk.out.1.cell 0 rfl
  have c2:=HBk.out.2.1.cell 0 rfl
  have c3:=HBk.out.2.2.cell 0 rfl
  have hf1:=HBk.out.1.frz 0
  have hlt:Bs<wr.heap.size:=HBk.out.1.lt
  by_cases hc:zV (zc r)<r.size
  · have HIX:=Lib.hid (fun w=>zdV r w hc)
    have HPF:=Lib.hid (VO r hc)
    generalize zV (zc r)=f at *
    have hlen:pre.length<(yI s).length:=by rw [HP.out,HPF.out,List.length_append,List.length_map,List.length_cons]; omega
    have hxf0:(r.extract 0 f).size≤9223372036854775807:=by rw [ByteArray.size_extract]; omega
    obtain ⟨fn,tmps,assign,body,hy,hRd⟩:=HY.out pre ⟨r.extract 0 f,hxf0⟩ wr HJp.out hlen (by intro q hq; simp at hq; subst hq; exact hlt)
    clear hlen
    have HLT:=Lib.hid hlt
    clear hlt
    gi_wp2_with fail
    refine ⟨trivial,(callsIn_wide.2 (HIX.out _)).mono ?_⟩
    rintro e w2 ⟨rfl,rfl⟩
    gi_wp2
    refine hRd.mono ?_
    rintro e W3 (⟨rfl,hJ3,hk3⟩ | ⟨rfl,hJx3⟩)
    · have d1:Blk W3 Bs [.string r] 9:=(hk3.2 Bs (by simp)).trans HBk.out.1
      have d2:Blk W3 Bq [.string { data := #[47] }] 9:=(hk3.2 Bq (by simp)).trans HBk.out.2.1
      have d3:Blk W3 Bv [.int .i64 0] 3:=(hk3.2 Bv (by simp)).trans HBk.out.2.2
      have hx1:=d1.cell 0 rfl
      have hx2:=d2.cell 0 rfl
      have hxf:=d1.frz 0
      have HD:Hid (Blk W3 Bs [.string r] 9∧Blk W3 Bq [.string { data := #[47] }] 9∧Blk W3 Bv [.int .i64 0] 3):=Lib.hid ⟨d1,d2,d3⟩
      have HJ3:=Lib.hid hJ3
      clear d1 d2 d3 hk3 hJ3 c1 c2 c3 hf1 hy HBk
      have hsz:(r.extract (f+1) r.size).size=r.size-(f+1):=by rw [ByteArray.size_extract]; omega
      have HSZ:=Lib.hid hsz
      clear hsz
      gi_wp2
      gi_roundg (r.size-(f+1))
      all_goals first
       | omega
       | (refine ⟨r.extract (f+1) r.size,pre++[⟨r.extract 0 f,hxf0⟩],HSZ.out.symm,by rw [HSZ.out]; omega,Lib.hid (by rw [HP.out,HPF.out]; simp),Lib.hid (HJ.out _ _ _ HJ3.out ?_),Lib.hid ⟨?_,?_,?_⟩⟩
          · exact Kr ((Upd.refl [Bs] _).setCell (.inl (by simp)) _) (fun k hk=>hk) (fun k hk=>by simp at hk; subst hk; exact HD.out.1.cellsOnly)
          · exact HD.out.1.set 0 _
          · exact HD.out.2.1.setFar _ HN.out
          · exact HD.out.2.2.setFar _ HN2.out)
    · gi_wp2
      refine bodyPost_ret (results_none rfl _ _ _) rfl ?_
      exact ⟨⟨_,rfl⟩,.inr ⟨_,by rw [HP.out,HPF.out]; exact ⟨yI (r.extract (f+1) r.size),by simp⟩,hJx3⟩⟩
  · have HIX:=Lib.hid (fun w=>zgU r w hc)
    have HPF:=Lib.hid (zaB r hc)
    have hlen:pre.length<(yI s).length:=by rw [HP.out,HPF.out,List.length_append,List.length_map,List.length_cons]; omega
    obtain ⟨fn,tmps,assign,body,hy,hRd⟩:=HY.out pre ⟨r,by omega⟩ wr HJp.out hlen (by intro q hq; simp at hq; subst hq; exact hlt)
    clear hlen hc
    have HLT:=Lib.hid hlt
    clear hlt
    gi_wp2_with fail
    refine ⟨trivial,(callsIn_wide.2 (HIX.out _)).mono ?_⟩
    rintro e w2 ⟨rfl,rfl⟩
    gi_wp2
    refine hRd.mono ?_
    rintro e W3 (⟨rfl,hJ3,hk3⟩ | ⟨rfl,hJx3⟩)
    · gi_wp2
      go_end0
      exact ⟨⟨_,rfl⟩,.inl ⟨_,by rw [HP.out,HPF.out]; simp,hJ3⟩⟩
    · gi_wp2
      go_end0
      exact ⟨⟨_,rfl⟩,.inr ⟨_,by rw [HP.out,HPF.out]; simp,hJx3⟩⟩
end Go.Proofs.YtfkcdnaghndgfaaGreatDoor
namespace Go.Proofs.YtfkcdnaghndgfaaGreatDoor
open Go.RowKit
theorem zgL {P:Program} {c:Code} {Q:Exit→Act→World→Prop} {a:Act} {w:World} (h : ∀ fr,fr=a→c.wp P Q fr w):c.wp P Q a w:=h a rfl
theorem Upd.putObj' {fp:List Nat} {a w:World} (h:Upd fp a w) {D:Nat} (hD:a.heap.size≤D) (o:Obj):Upd fp a (w.putObj D o):=h.grown (grownBy_putObj' w D o) (fun k e=>by cases e; exact .inr hD)
end Go.Proofs.YtfkcdnaghndgfaaGreatDoor
namespace Go.Proofs.YtfkcdnaghndgfaaGreatDoor
open Go.RowKit Go.Shelf
attribute [local go_sem] Oper.semAt_some
theorem jk (w:World):Calls Tryz.prog 85 #[] w fun e w'=>e = .returned (.string { data := #[46,115,119,105,110,103,108,101] })∧w=w':=by
 go_enter Tryz.func85,Tryz.ntmps85
 go_wp2
 go_ret
 exact ⟨rfl,rfl⟩
theorem ziO (l:List Nat) (hl : ∀ x∈l,x<256):((zf l).toList==[46,115,119,105,110,103,108,101])=decide (l=Xa):=by
 rw [qj,zv l hl]; rfl
theorem Zj (s:ByteArray) : ∀ p∈zw (zc s),∀ x∈p,x<256:=fun p hp x hx=>zT s x (kQ _ p hp x hx)
theorem zbq (s x:ByteArray) (h:x∈yI s):zc x∈zw (zc s):=by
 unfold yI at h
 obtain ⟨p,hp,rfl⟩:=List.mem_map.1 h
 rw [zv p (Zj s p hp)]; exact hp
def zh2 (pre:List Shs):Prop:=pre.length≤12 ∧ ∀ x∈pre,xq (zc x.1)=true
def zf5 (pre:List Shs):Prop:=12<pre.length ∨ ∃ x∈pre,xq (zc x.1)=false
theorem zeh (s:ByteArray) (h1:s.size≤200) (h2:(zw (zc s)).headD []≠Xa) (pre:List Shs) (hp:pre.map Subtype.val=yI s) (h:zh2 pre):yG (zc s)=true:=by
 obtain ⟨h3,h4⟩:=h
 have hl:(zw (zc s)).length=pre.length:=by
  have:=congrArg List.length hp
  rw [List.length_map] at this; unfold yI at this; rw [List.length_map] at this; omega
 refine za9 (by rw [zd]; exact h1) h2 (by omega) fun p hpm=>?_
 have hm:zf p∈pre.map Subtype.val:=by rw [hp]; unfold yI; exact List.mem_map_of_mem hpm
 obtain ⟨x,hx,hxe⟩:=List.mem_map.1 hm
 have:=h4 x hx
 rwa [hxe,zv p (Zj s p hpm)] at this
theorem zgi (s:ByteArray) (pre:List Shs) (hp:pre.map Subtype.val <+: yI s) (h:zf5 pre):yG (zc s)=false:=by
 rcases h with h | ⟨x,hx,hb⟩
 · have h1:=hp.length_le
   unfold yI at h1
   rw [List.length_map,List.length_map] at h1
   exact WX (by omega)
 · exact zco (zbq s x.1 (hp.subset (List.mem_map_of_mem hx))) hb
theorem qH {fn:Func} {p:Tmp} (h:fn.results = #[.cell p 4]) (tmps:Array Value) (w:World) (g:Nat) (b:Bool) (hp:tmps.getD p undef = .pointer (some ⟨g,0,none⟩)) (hB:Blk w g [.bool b] 4) :
 (results fn tmps).run Tryz.prog w = .ok (.bool b) w:=by
 have hc:=hB.cell 0 rfl
 have hp2:tmps[p]?.getD undef = .pointer (some ⟨g,0,none⟩):=by rw [← hp]; simp
 simp [results,h,go_sem,hp2,hc]
def NrI (s:ByteArray) (w0:World) (bn br:Nat) (pre:List Shs) (W:World):Prop:=Blk W bn [.int .i64 (pre.length:Nat)] 3∧Blk W br [.bool false] 4∧Upd [] w0 W
theorem NrI.own {s:ByteArray} {w0:World} {bn br B:Nat} (hB:w0.heap.size≤B):OwnFrom B (NrI s w0 bn br):=fun p A C row hs hg hr=>by
 obtain ⟨h1,h2,h3⟩:=hs
 exact ⟨qg B bn (fun (_:Unit)=>_) _ () A C row h1 hg hr,qg B br (fun (_:Unit)=>_) _ () A C row h2 hg hr,Xi B [] w0 hB () A C row h3 hg hr⟩
theorem NrI.w2 {s:ByteArray} {w0:World} {bn br bs:Nat} (h1:bn≠bs) (h2:br≠bs) (h3:w0.heap.size≤bs) : ∀ p A C,NrI s w0 bn br p A→Own2 [bs] A C→NrI s w0 bn br p C:=fun p A C hs hAC=>by
 obtain ⟨k1,k2,k3⟩:=hs
 exact ⟨k1.upd hAC.1 (by simpa using h1),k2.upd hAC.1 (by simpa using h2),k3.trans hAC.1 (fun k hk=>by simp at hk; subst hk; exact .inr h3)⟩
set_option maxRecDepth 100000 in
set_option maxHeartbeats 4000000 in
theorem JE (s:ByteArray) (w:World) (hs:s.size≤9223372036854775807):Calls Tryz.prog 84 #[.string s] w fun e w'=>e = .returned (.bool (yG (zc s)))∧Upd [] w w':=by
 have HC:=Lib.hid (fun w=>zhJ s w hs)
 have hhd : ∀ x∈(zw (zc s)).headD [],x<256:=Zj s _ (by
  rw [Vc (zc s)]; simp)
 have HQ:=Lib.hid (ziO _ hhd)
 have HLN:=Lib.hid (zd s)
 clear hhd
 refine (callsIn_wide (n:=9)).1 ?_
 refine callsIn_of_wp_marks Tryz.func84 rfl trivial ?_ rfl
 simp only [Tryz.ntmps84,List.size_toArray,List.length_cons,List.length_nil,Nat.reduceAdd,Nat.reduceSub,Array.replicate_succ,Array.replicate_zero,List.push_toArray,List.append_toArray,List.nil_append,List.cons_append]
 refine wpIn_wide.2 ?_
 let QQ:Exit→Act→World→Prop:=bodyPost Tryz.prog Tryz.f84 (fun _ _=>True)
 by_cases h200:200<s.size
 · have HE:=Lib.hid (zai (l:=zc s) (by rw [HLN.out]; exact h200))
   generalize (zw (zc s)).headD []=hd at *
   go_wp2_with fail
   refine (HC.out _).mono ?_
   rintro e w1 ⟨⟨r,b,rfl⟩,hU1⟩
   have hBr:Blk w1 w.heap.size [.bool false] 4:=(Blk.new w [.bool false] 4).upd hU1 (by simp)
   have cr:=hBr.cell 0 rfl
   have fr:=hBr.frz 0
   have HBr:=Lib.hid hBr
   have HUU:=Lib.hid (((Upd.refl [] w).alloc (.cells #[.bool false] 4)).then hU1)
   clear hU1 hBr
   go_wp2
   exact ⟨.bool false,qH rfl _ _ w.heap.size false rfl (HBr.out.set 0 _),by rw [HE.out],HUU.out.setCell (.inr (Nat.le_refl _)) _⟩
 · by_cases hres:(zw (zc s)).headD []=Xa
   · have HE:=Lib.hid (zbD (l:=zc s) hres)
     have t1:=HQ.out.trans (decide_eq_true hres)
     clear hres HQ
     generalize (zw (zc s)).headD []=hd at *
     go_wp2_with fail
     refine (HC.out _).mono ?_
     rintro e w1 ⟨⟨r,b,rfl⟩,hU1⟩
     have hBr:Blk w1 w.heap.size [.bool false] 4:=(Blk.new w [.bool false] 4).upd hU1 (by simp)
     have cr:=hBr.cell 0 rfl
     have fr:=hBr.frz 0
     have HBr:=Lib.hid hBr
     have HUU:=Lib.hid (((Upd.refl [] w).alloc (.cells #[.bool false] 4)).then hU1)
     clear hU1 hBr
     go_wp2_with (go_at_call 85; refine (jk _).mono ?_; rintro e w' ⟨rfl,rfl⟩)
     exact ⟨.bool false,qH rfl _ _ w.heap.size false rfl (HBr.out.set 0 _),by rw [HE.out],HUU.out.setCell (.inr (Nat.le_refl _)) _⟩
   · have HN:=Lib.hid hres
     have t1:=HQ.out.trans (decide_eq_false hres)
     have hs2:s.size≤200:=by omega
     have HDN:=Lib.hid (zeh s hs2 hres)
     have HNT:=Lib.hid (zgi s)
     clear hres HQ HN
     generalize (zw (zc s)).headD []=hd at *
     go_wp2_with fail
     refine (HC.out _).mono ?_
     rintro e w1 ⟨⟨r,b,rfl⟩,hU1⟩
     have HBr:Hid (Blk w1 w.heap.size [.bool false] 4):=Lib.hid ((Blk.new w [.bool false] 4).upd hU1 (by simp))
     have HUU:=Lib.hid (((Upd.refl [] w).alloc (.cells #[.bool false] 4)).then hU1)
     clear hU1
     go_wp2_with (go_at_call 85; refine (jk _).mono ?_; rintro e w' ⟨rfl,rfl⟩)
     have HBn:Hid (Blk (w1.alloc (.cells #[.int .i64 0] 3)) w1.heap.size [.int .i64 (([]:List Shs).length:Nat)] 3):=Lib.hid (Blk.new w1 [.int .i64 0] 3)
     have hA2:Upd [] w1 (w1.alloc (.cells #[.int .i64 0] 3)):=(Upd.refl _ _).alloc _
     have HBr2:=Lib.hid (HBr.out.upd hA2 (by simp))
     have HU2:=Lib.hid (HUU.out.then hA2)
     have hz2:w1.heap.size<(w1.alloc (.cells #[.int .i64 0] 3)).heap.size:=by simp
     clear hA2 HUU
     have hlt0:=HBr.out.lt
     have hle0:w.heap.size≤w1.heap.size:=by omega
     clear HBr
     generalize w1.alloc (.cells #[.int .i64 0] 3)=w2 at *
     obtain ⟨bn,hbn⟩ : ∃ bn,w1.heap.size=bn:=⟨_,rfl⟩
     rw [hbn] at HBn hz2 hlt0 hle0 ⊢
     clear hbn
     go_wp2_with fail
     refine (KI s w2).mono ?_
     rintro e w3 ⟨rfl,hw3⟩
     have HS3:Hid (Blk w3 w2.heap.size [.string s] 9∧Blk w3 (w2.heap.size+1) [.string { data := #[47] }] 9∧Blk w3 (w2.heap.size+2) [.int .i64 0] 3):=Lib.hid (by
      rw [hw3]
      refine ⟨((Blk.new w2 [.string s] 9).alloc _).alloc _,?_,?_⟩
      · have:=(Blk.new (w2.alloc (.cells #[.string s] 9)) [.string { data := #[47] }] 9).alloc (.cells #[.int .i64 0] 3)
        rw [World.size_alloc] at this; exact this
      · have:=Blk.new ((w2.alloc (.cells #[.string s] 9)).alloc (.cells #[.string { data := #[47] }] 9)) [.int .i64 0] 3
        rw [World.size_alloc,World.size_alloc] at this; exact this)
     have hA3:Upd [] w2 w3:=by rw [hw3]; exact (((Upd.refl _ _).alloc _).alloc _).alloc _
     have hz3:w3.heap.size=w2.heap.size+3:=by rw [hw3]; simp
     have HBn3:=Lib.hid (HBn.out.upd hA3 (by simp))
     have HBr3:=Lib.hid (HBr2.out.upd hA3 (by simp))
     have HU3:=Lib.hid (HU2.out.then hA3)
     clear hw3 hA3 HBn HBr2 HU2
     obtain ⟨bs,hbs⟩ : ∃ bs,w2.heap.size=bs:=⟨_,rfl⟩
     rw [hbs] at HS3 hz3 hz2 ⊢
     clear hbs
     have hw30:w.heap.size≤w3.heap.size:=HU3.out.size
     go_wp2_with fail
     refine zgL ?_
     intro fr hfr
     refine Code.wp_mono (Q:=fun e a' W=>(e = .normal∨e = .ret) ∧ ∃ D pre,a' = { fr with defers := { target := .collected D,args := #[] }::fr.defers }∧w3.heap.size≤D∧W.heap[D]? =some (.deferred (some []))∧Blk W w.heap.size [.bool false] 4∧Upd [] w W ∧
      Hid ((e = .normal∧pre.map Subtype.val=yI s∧zh2 pre)∨(e = .ret∧pre.map Subtype.val <+: yI s∧zf5 pre))) ?cont ((wpIn_wide (n:=9)).1 ?main)
     case main =>
      refine ziE (gf:=201) (lb := #[.pointer (some ⟨bs+1,0,none⟩),.pointer (some ⟨bs,0,none⟩),.pointer (some ⟨bs+2,0,none⟩)]) (by rw [hfr]; rfl) (enters_of Tryz.func201 (by kernel_rfl) rfl)
       (zeZ bs (bs+1) (bs+2) s w3 HS3.out.1 HS3.out.2.1 HS3.out.2.2 ⟨by omega,by omega⟩ (by omega)) (by intro k hk; simp at hk; omega) (fun _=>rfl)
       (fun pre W=>NrI s w bn w.heap.size pre W∧Hid (zh2 pre))
       (fun c pre W=>(c = .ret∧Hid (zf5 pre))∧NrI s w bn w.heap.size pre W)
       ?act
       (OwnFrom.and (NrI.own hw30) (ownFrom_pure _ _)) (fun c=>OwnFrom.and (ownFrom_pure _ _) (NrI.own hw30))
       ?iw ?ixw ⟨⟨HBn3.out,HBr3.out,HU3.out⟩,Lib.hid ⟨by simp,by simp⟩⟩ ?assign ?body ?done ?stop
      case assign =>
       intro L1 x W K hK
       subst hfr
       gi_wp2
       exact hK
      case iw =>
       rintro s' A C ⟨h1,h2⟩ hAC
       exact ⟨NrI.w2 (by omega) (by omega) (by omega) _ A C h1 hAC,h2⟩
      case ixw =>
       rintro c s' A C ⟨h1,h2⟩ hAC
       exact ⟨h1,NrI.w2 (by omega) (by omega) (by omega) _ A C h2 hAC⟩
      case body =>
       rintro L1 pre x W hsz hfp ⟨⟨hn,hr,hU⟩,hA⟩ hlt
       subst hfr
       have n0:=hn.cell 0 rfl
       have nf:=hn.frz 0
       have r0:=hr.cell 0 rfl
       have rf:=hr.frz 0
       have HNb:=Lib.hid hn
       have HRb:=Lib.hid hr
       have HUb:=Lib.hid hU
       have hp0:(pre.length:Int)≤12:=by have:=hA.out.1; omega
       have HPT:=Lib.hid (fun w=>zgl x.1 w x.2)
       clear hn hr hU hlt hfp
       have hbw:w.heap.size≠bn:=by omega
       have r1:(W.setCell ⟨bn,0,none⟩ (.int .i64 ((pre.length:Int)+1))).cell? ⟨w.heap.size,0,none⟩=some (.bool false):=(HRb.out.setFar (a:=⟨bn,0,none⟩) _ hbw).cell 0 rfl
       have rf1:(W.setCell ⟨bn,0,none⟩ (.int .i64 ((pre.length:Int)+1))).frozen? ⟨w.heap.size,0,none⟩=false:=(HRb.out.setFar (a:=⟨bn,0,none⟩) _ hbw).frz 0
       have hn1:Blk (W.setCell ⟨bn,0,none⟩ (.int .i64 ((pre.length:Int)+1))) bn [.int .i64 ((pre++[x]).length:Nat)] 3:=by
        have:=HNb.out.set 0 (.int .i64 ((pre.length:Int)+1))
        rw [List.length_append]; exact this
       have hr1:=HRb.out.setFar (a:=⟨bn,0,none⟩) (.int .i64 ((pre.length:Int)+1)) hbw
       have hU1:Upd [] w (W.setCell ⟨bn,0,none⟩ (.int .i64 ((pre.length:Int)+1))):=HUb.out.setCell (.inr (by simp; omega)) _
       have hUx:Upd [bn] W (W.setCell ⟨bn,0,none⟩ (.int .i64 ((pre.length:Int)+1))):=(Upd.refl _ _).setCell (.inl (by simp)) _
       have hK1:KeepsFrom w3.heap.size W (W.setCell ⟨bn,0,none⟩ (.int .i64 ((pre.length:Int)+1))):=(hUx.others (fun k hk=>by simp at hk; subst hk; exact HNb.out.cellsOnly)).from _
       have hKp:Keep [bs,bs+1,bs+2] W (W.setCell ⟨bn,0,none⟩ (.int .i64 ((pre.length:Int)+1))):=Keep.of_upd hUx (fun k hk=>by simp at hk; constructor<;>(try simp)<;>omega)
       have HN1:=Lib.hid hn1
       have HR1:=Lib.hid hr1
       have HU1:=Lib.hid hU1
       have HK1:=Lib.hid hK1
       have HKP:=Lib.hid hKp
       have hlt1:bn<(W.setCell ⟨bn,0,none⟩ (.int .i64 ((pre.length:Int)+1))).heap.size:=hn1.lt
       clear hn1 hr1 hU1 hUx hK1 hKp
       cases hpo:xq (zc x.1) with
       | true =>
         rw [hpo] at HPT
         by_cases h12:pre.length+1≤12
         · have h12':(pre.length:Int)+1≤12:=by omega
           have HAN:Hid (zh2 (pre++[x])):=Lib.hid ⟨by simp; omega,fun y hy=>by
            rcases List.mem_append.1 hy with hy | hy
            · exact hA.out.2 y hy
            · simp at hy; subst hy; exact hpo⟩
           clear hpo h12
           gi_wp2_with fail
           refine ⟨trivial,(CallsIn.inRound L1 (callsIn_wide.2 (HPT.out _))).mono ?_⟩
           rintro e W2 ⟨rfl,rfl⟩
           gi_wp2
           exact ⟨HK1.out,HKP.out,⟨HN1.out,HR1.out,HU1.out⟩,HAN⟩
         · have h12':12<(pre.length:Int)+1:=by omega
           have HAN:Hid (zf5 (pre++[x])):=Lib.hid (.inl (by simp; omega))
           clear hpo h12
           gi_wp2_with fail
           refine ⟨trivial,(CallsIn.inRound L1 (callsIn_wide.2 (HPT.out _))).mono ?_⟩
           rintro e W2 ⟨rfl,rfl⟩
           gi_wp2
           have hUy:Upd [w.heap.size] (W.setCell ⟨bn,0,none⟩ (.int .i64 ((pre.length:Int)+1))) ((W.setCell ⟨bn,0,none⟩ (.int .i64 ((pre.length:Int)+1))).setCell ⟨w.heap.size,0,none⟩ (.bool false)):=(Upd.refl _ _).setCell (.inl (by simp)) _
           refine ⟨HK1.out.trans ((hUy.others (fun k hk=>by simp at hk; subst hk; exact HR1.out.cellsOnly)).from _),⟨rfl,HAN⟩,HN1.out.setFar _ (by simp; omega),HR1.out.set 0 _,HU1.out.setCell (.inr (Nat.le_refl _)) _⟩
       | false =>
         rw [hpo] at HPT
         have HAN:Hid (zf5 (pre++[x])):=Lib.hid (.inr ⟨x,by simp,hpo⟩)
         clear hpo
         gi_wp2_with fail
         refine ⟨trivial,(CallsIn.inRound L1 (callsIn_wide.2 (HPT.out _))).mono ?_⟩
         rintro e W2 ⟨rfl,rfl⟩
         gi_wp2
         have hUy:Upd [w.heap.size] (W.setCell ⟨bn,0,none⟩ (.int .i64 ((pre.length:Int)+1))) ((W.setCell ⟨bn,0,none⟩ (.int .i64 ((pre.length:Int)+1))).setCell ⟨w.heap.size,0,none⟩ (.bool false)):=(Upd.refl _ _).setCell (.inl (by simp)) _
         refine ⟨HK1.out.trans ((hUy.others (fun k hk=>by simp at hk; subst hk; exact HR1.out.cellsOnly)).from _),⟨rfl,HAN⟩,HN1.out.setFar _ (by simp; omega),HR1.out.set 0 _,HU1.out.setCell (.inr (Nat.le_refl _)) _⟩
      case done =>
       rintro D xs W hD hxs ⟨⟨hn,hr,hU⟩,hA⟩ hK
       exact ⟨.inl rfl,D,_,rfl,hD,hK,hr,hU,Lib.hid (.inl ⟨rfl,hxs,hA.out⟩)⟩
      case stop =>
       rintro D c pre W hD hpre ⟨⟨rfl,hA⟩,hn,hr,hU⟩ hK
       refine wpIn_ret ?_
       exact ⟨.inr rfl,D,pre,rfl,hD,hK,hr,hU,Lib.hid (.inr ⟨rfl,hpre,hA.out⟩)⟩
     case cont =>
      rintro e a' wz ⟨he,D,pre,rfl,hD,hDk,hr,hU,HP⟩
      subst hfr
      have HR:=Lib.hid hr
      have HU:=Lib.hid hU
      have r0:=hr.cell 0 rfl
      have rf:=hr.frz 0
      have HDk:=Lib.hid hDk
      have hwD:w.heap.size≤D:=by omega
      have hDlt:D<wz.heap.size:=(Array.getElem?_eq_some_iff.1 hDk).1
      clear hr hU hDk
      rcases HP.out with ⟨rfl,hpp,hA⟩ | ⟨rfl,hpp,hA⟩
      · have HE:=Lib.hid (HDN.out pre hpp hA)
        clear HP hpp hA he
        go_wp2
        have hk9:(wz.setCell ⟨w.heap.size,0,none⟩ (.bool true)).heap[D]? =some (.deferred (some [])):=(Below.heap_setCell _ _ _ _ (by simp; omega)).trans HDk.out
        refine ⟨by simp,.inl ⟨_,_,rfl,run_takeDeferred hk9,?_⟩⟩
        have hB9:Blk ((wz.setCell ⟨w.heap.size,0,none⟩ (.bool true)).putObj D (.deferred none)) w.heap.size [.bool true] 4:=(World.putObj_heap_other (by omega)).trans (HR.out.set 0 _)
        exact ⟨.bool true,qH rfl _ _ w.heap.size true rfl hB9,by rw [HE.out],(HU.out.setCell (.inr (Nat.le_refl _)) _).putObj' hwD _⟩
      · have HE:=Lib.hid (HNT.out pre hpp hA)
        clear HP hpp hA he
        go_wp2
        refine ⟨by simp,.inl ⟨_,_,rfl,run_takeDeferred HDk.out,?_⟩⟩
        have hB9:Blk (wz.putObj D (.deferred none)) w.heap.size [.bool false] 4:=(World.putObj_heap_other (by omega)).trans HR.out
        exact ⟨.bool false,qH rfl _ _ w.heap.size false rfl hB9,by rw [HE.out],HU.out.putObj' hwD _⟩
end Go.Proofs.YtfkcdnaghndgfaaGreatDoor
namespace Go.Proofs.YtfkcdnaghndgfaaGreatDoor
open Go.RowKit
def jz (l:List Nat):Bool:=decide (l.drop (l.length-1)=[47])
theorem zaL {l:List Nat} (h:jz l=true):1≤l.length:=by
 unfold jz at h
 have:=congrArg List.length (of_decide_eq_true h)
 rw [List.length_drop] at this; simp at this; omega
theorem zfu (s:ByteArray) (h:s.size=0):jz (zc s)=false:=by
 unfold jz
 have:zc s=[]:=List.eq_nil_of_length_eq_zero (by rw [zd]; exact h)
 rw [this]; rfl
def yl (l:List Nat):List Nat×Nat×Bool :=
 if jz l=true then (if yG (l.take (l.length-1))=true then (l.take (l.length-1),2,true) else ([],0,false))
 else if yG l=true∨l=Xa then (l,1,true) else ([],0,false)
def zdg (p:List Nat×Nat×Bool):Value := .tuple #[.string (zf p.1),.int .i64 (p.2.1:Nat),.bool p.2.2]
theorem zgp {l:List Nat} (h : ∀ x∈l,x<256) : ∀ x∈(yl l).1,x<256:=by
 unfold yl
 repeat' split
 all_goals first
  | exact fun x hx=>h x (List.mem_of_mem_take hx)
  | exact h
  | (intro x hx; simp at hx)
set_option maxRecDepth 100000 in
theorem zbt (s:ByteArray) (w:World) (hs:s.size≤1000000):Calls Tryz.prog 167 #[.string s,.string { data := #[47] }] w fun e w'=>e = .returned (.bool (jz (zc s)))∧w=w':=by
 by_cases h0:s.size=0
 · have HE:=Lib.hid (zfu s h0)
   go_enter Tryz.func167,Tryz.ntmps167
   go_wp2
   go_ret
   exact ⟨by rw [HE.out]; rfl,rfl⟩
 · have h1:1≤s.size:=by omega
   have HT:Hid (((s.extract (s.size-1) s.size).toList==[47])=jz (zc s)):=Lib.hid (by
    rw [qj,vv]; unfold jz; rw [zd]; rfl)
   cases hb:jz (zc s) with
   | true =>
     have t1:=HT.out.trans hb
     clear hb HT
     go_enter Tryz.func167,Tryz.ntmps167
     go_wp2
     go_ret
     exact ⟨rfl,rfl⟩
   | false =>
     have t1:=HT.out.trans hb
     clear hb HT
     go_enter Tryz.func167,Tryz.ntmps167
     go_wp2
     go_ret
     exact ⟨rfl,rfl⟩
def zcn (s:ByteArray):Value := .tuple #[.string (if jz (zc s)=true then s.extract 0 (s.size-1) else s),.bool (jz (zc s))]
theorem zar {s:ByteArray} (h:jz (zc s)=true):zcn s = .tuple #[.string (s.extract 0 (s.size-1)),.bool true]:=by unfold zcn; rw [h]; rfl
theorem zcF {s:ByteArray} (h:jz (zc s)=false):zcn s = .tuple #[.string s,.bool false]:=by unfold zcn; rw [h]; rfl
theorem Ww (s:ByteArray) (w:World) (hs:s.size≤1000000):Calls Tryz.prog 131 #[.string s,.string { data := #[47] }] w fun e w'=>e = .returned (zcn s)∧w=w':=by
 have HH:=Lib.hid (fun w=>zbt s w hs)
 cases hb:jz (zc s) with
 | true =>
   have h1:1≤s.size:=by have:=zaL hb; rw [zd] at this; exact this
   have HV:=Lib.hid (zar hb)
   rw [hb] at HH
   clear hb
   go_enter Tryz.func131,Tryz.ntmps131
   go_wp2_with (go_at_call 167; refine (HH.out _).mono ?_; rintro e w' ⟨rfl,rfl⟩)
   go_ret2
   exact ⟨by rw [HV.out]; rfl,rfl⟩
 | false =>
   have HV:=Lib.hid (zcF hb)
   rw [hb] at HH
   clear hb
   go_enter Tryz.func131,Tryz.ntmps131
   go_wp2_with (go_at_call 167; refine (HH.out _).mono ?_; rintro e w' ⟨rfl,rfl⟩)
   go_ret2
   exact ⟨by rw [HV.out]; rfl,rfl⟩
theorem zcp (s:ByteArray) (w:World) (hs:s.size≤1000000):Calls Tryz.prog 83 #[.string s,.string { data := #[47] }] w fun e w'=>e = .returned (zcn s)∧w=w':=by
 have HH:=Lib.hid (fun w=>Ww s w hs)
 have HV:Hid (zcn s = .tuple #[.string (if jz (zc s)=true then s.extract 0 (s.size-1) else s),.bool (jz (zc s))]):=Lib.hid rfl
 rw [HV.out] at HH
 generalize (if jz (zc s)=true then s.extract 0 (s.size-1) else s)=r at *
 generalize jz (zc s)=b at *
 go_enter Tryz.func83,Tryz.ntmps83
 go_wp2_with (go_at_call 131; refine (HH.out _).mono ?_; rintro e w' ⟨rfl,rfl⟩)
 go_ret2
 exact ⟨by rw [HV.out]; rfl,rfl⟩
theorem zdp {l:List Nat} (h:jz l=true) (hr:yG (l.take (l.length-1))=true):yl l=(l.take (l.length-1),2,true):=by unfold yl; rw [if_pos h,if_pos hr]
theorem zbu {l:List Nat} (h:jz l=true) (hr:yG (l.take (l.length-1))=false):yl l=([],0,false):=by unfold yl; rw [if_pos h,hr]; rfl
theorem XO {l:List Nat} (h:jz l=false) (hr:yG l=true∨l=Xa):yl l=(l,1,true):=by unfold yl; rw [h,if_neg (by simp),if_pos hr]
theorem zbe {l:List Nat} (h:jz l=false) (hr : ¬ (yG l=true∨l=Xa)):yl l=([],0,false):=by unfold yl; rw [h,if_neg (by simp),if_neg hr]
theorem vP {l a:List Nat} {k:Nat} {b:Bool} (h:yl l=(a,k,b)):zdg (yl l) = .tuple #[.string (zf a),.int .i64 (k:Nat),.bool b]:=by rw [h]; rfl
theorem ziP (s:ByteArray):(s.toList==[46,115,119,105,110,103,108,101])=decide (zc s=Xa):=qj s _
set_option maxRecDepth 100000 in
set_option maxHeartbeats 4000000 in
theorem KR (s:ByteArray) (w:World) (hs:s.size≤1000000):Calls Tryz.prog 44 #[.string s] w fun e w'=>e = .returned (zdg (yl (zc s)))∧Upd [] w w':=by
 have HC:=Lib.hid (fun w=>zcp s w hs)
 have HR:=Lib.hid (fun w=>JE s w (by omega))
 have HQ:=Lib.hid (ziP s)
 cases hb:jz (zc s) with
 | true =>
   have h1:1≤s.size:=by have:=zaL hb; rw [zd] at this; exact this
   rw [zar hb] at HC
   have HX:=Lib.hid (fun w=>JE (s.extract 0 (s.size-1)) w (by rw [ByteArray.size_extract]; omega))
   have he:zc (s.extract 0 (s.size-1))=(zc s).take ((zc s).length-1):=by rw [zF,List.drop_zero,zd]; rfl
   rw [he] at HX
   have HST:Hid (s.extract 0 (s.size-1)=zf ((zc s).take ((zc s).length-1))):=Lib.hid (by rw [vh,zd])
   clear he HR
   cases hr:yG ((zc s).take ((zc s).length-1)) with
   | true =>
     have HV:=Lib.hid (vP (zdp hb hr))
     rw [hr] at HX
     clear hb hr
     go_enter Tryz.func44,Tryz.ntmps44
     go_wp2_with fail
     refine (HC.out _).mono ?_
     rintro e w1 ⟨rfl,rfl⟩
     go_wp2_with fail
     refine (HX.out _).mono ?_
     rintro e w2 ⟨rfl,hU⟩
     go_wp2
     go_ret3
     exact ⟨by rw [HV.out,← HST.out]; rfl,hU⟩
   | false =>
     have HV:=Lib.hid (vP (zbu hb hr))
     rw [hr] at HX
     clear hb hr
     go_enter Tryz.func44,Tryz.ntmps44
     go_wp2_with fail
     refine (HC.out _).mono ?_
     rintro e w1 ⟨rfl,rfl⟩
     go_wp2_with fail
     refine (HX.out _).mono ?_
     rintro e w2 ⟨rfl,hU⟩
     go_wp2
     go_ret3
     exact ⟨by rw [HV.out]; rfl,hU⟩
 | false =>
   rw [zcF hb] at HC
   have HST:=Lib.hid (zx s)
   cases hr:yG (zc s) with
   | true =>
     have HV:=Lib.hid (vP (XO hb (.inl hr)))
     rw [hr] at HR
     clear hb hr
     go_enter Tryz.func44,Tryz.ntmps44
     go_wp2_with fail
     refine (HC.out _).mono ?_
     rintro e w1 ⟨rfl,rfl⟩
     go_wp2_with fail
     refine (HR.out _).mono ?_
     rintro e w2 ⟨rfl,hU⟩
     go_wp2
     go_ret3
     exact ⟨by rw [HV.out,HST.out]; rfl,hU⟩
   | false =>
     by_cases hq:zc s=Xa
     · have t1:=HQ.out.trans (decide_eq_true hq)
       have HV:=Lib.hid (vP (XO hb (.inr hq)))
       rw [hr] at HR
       clear hb hr hq HQ
       go_enter Tryz.func44,Tryz.ntmps44
       go_wp2_with fail
       refine (HC.out _).mono ?_
       rintro e w1 ⟨rfl,rfl⟩
       go_wp2_with fail
       refine (HR.out _).mono ?_
       rintro e w2 ⟨rfl,hU⟩
       go_wp2_with (go_at_call 85; refine (jk _).mono ?_; rintro e w' ⟨rfl,rfl⟩)
       go_ret3
       exact ⟨by rw [HV.out,HST.out]; rfl,hU⟩
     · have t1:=HQ.out.trans (decide_eq_false hq)
       have HV:=Lib.hid (vP (zbe hb (by rw [hr]; simp [hq])))
       rw [hr] at HR
       clear hb hr hq HQ
       go_enter Tryz.func44,Tryz.ntmps44
       go_wp2_with fail
       refine (HC.out _).mono ?_
       rintro e w1 ⟨rfl,rfl⟩
       go_wp2_with fail
       refine (HR.out _).mono ?_
       rintro e w2 ⟨rfl,hU⟩
       go_wp2_with (go_at_call 85; refine (jk _).mono ?_; rintro e w' ⟨rfl,rfl⟩)
       go_ret3
       exact ⟨by rw [HV.out]; rfl,hU⟩
end Go.Proofs.YtfkcdnaghndgfaaGreatDoor
namespace Go.Proofs.YtfkcdnaghndgfaaGreatDoor
open Go.RowKit
set_option maxRecDepth 100000 in
set_option maxHeartbeats 1600000 in
theorem jo (t f k b:Nat) (w:World) (hb:w.cell? ⟨b,0,none⟩=some (.int .u32 (t:Nat))) (ht:t<4294967296) (hf:f≤25) (hk:k≤7) :
 Calls Tryz.prog 115 #[.int .i64 (f:Nat),.int .i64 (k:Nat),.pointer (some ⟨b,0,none⟩)] w fun e w'=>e = .returned (.int .i64 (t/2^f%2^k:Nat)) ∧ ∃ n,w'=w.drewN n:=by
 go_enter Tryz.func115,Tryz.ntmps115
 go_wp2
 go_quiet (fail)
 go_wp2
 go_returns
 exact ⟨by
  show Ending.returned (.int .i64 (wrap64 (bits BinOp.and IntKind.u32 ((t:Int)/2^f) ((2^k-1)%4294967296))))=_
  rw [ze7 t f k ht hk,zcy _ (Nat.lt_of_lt_of_le (Nat.mod_lt _ (Nat.two_pow_pos k)) (Nat.le_trans (Nat.pow_le_pow_right (by omega) hk) (by omega)))],_,rfl⟩
end Go.Proofs.YtfkcdnaghndgfaaGreatDoor
