/- Package strings: SplitSeq at "/": the iterator's contract. -/
import Derived.RangeFuncOwn
import Derived.Test.YtfkenhihcmmgkaaGreatDoorQAL
set_option linter.unusedVariables false
set_option linter.unusedSimpArgs false
set_option linter.unusedSectionVars false
set_option maxRecDepth 100000
set_option maxHeartbeats 12800000
namespace Go.Proofs.YtfkenhihcmmgkaaGreatDoor
open Go.RowKit Go.Shelf
attribute [local go_sem] Oper.semAt_some
def yS (s:ByteArray):List ByteArray:=(zo (zf s)).map zg
theorem KM (s:ByteArray) (h:zY (zf s)<s.size):yS s=s.extract 0 (zY (zf s))::yS (s.extract (zY (zf s)+1) s.size):=by
 unfold yS;rw [kY _ (by rw [zi]; exact h),List.map_cons,← jD,zW,List.take_of_length_le (by rw [List.length_drop,zi]; omega)]
theorem zaK (s:ByteArray) (h : ¬ zY (zf s)<s.size):yS s=[s]:=by
 unfold yS;rw [vV _ (by rw [zi]; exact h),List.map_cons,zE]; rfl
abbrev Shs := { x:ByteArray // x.size≤9223372036854775807 }
theorem KL (s:ByteArray) (w:World):Calls Tryz.prog 201 #[.string s,.string { data := #[47] }] w fun e w' =>
 e = .returned (.func (.func 280) #[] #[.pointer (some ⟨w.heap.size+1,0,none⟩),.pointer (some ⟨w.heap.size,0,none⟩),.pointer (some ⟨w.heap.size+2,0,none⟩)]) ∧
 w'=((w.alloc (.cells #[.string s] 9)).alloc (.cells #[.string { data := #[47] }] 9)).alloc (.cells #[.int .i64 0] 3):=by
 have h1:Calls Tryz.prog 241 #[.string s,.string { data := #[47] },.int .i64 0] w fun e w' =>
  e = .returned (.func (.func 280) #[] #[.pointer (some ⟨w.heap.size+1,0,none⟩),.pointer (some ⟨w.heap.size,0,none⟩),.pointer (some ⟨w.heap.size+2,0,none⟩)]) ∧
  w'=((w.alloc (.cells #[.string s] 9)).alloc (.cells #[.string { data := #[47] }] 9)).alloc (.cells #[.int .i64 0] 3):=by
  go_enter Tryz.func241,Tryz.ntmps241;go_wp2;go_ret;exact ⟨rfl,rfl⟩
 go_enter Tryz.func201,Tryz.ntmps201;go_wp2_with (go_at_call 241; refine h1.mono ?_; rintro e w' ⟨rfl,rfl⟩)
 go_ret;exact ⟨rfl,rfl⟩
theorem zez (Bs Bq Bv:Nat) (s:ByteArray) (w:World) (hB:Blk w Bs [.string s] 9) (hQ:Blk w Bq [.string { data := #[47] }] 9) (hV:Blk w Bv [.int .i64 0] 3) (hne:Bq≠Bs∧Bv≠Bs) (hs:s.size≤9223372036854775806) :
 ziM Tryz.prog 280 #[.pointer (some ⟨Bq,0,none⟩),.pointer (some ⟨Bs,0,none⟩),.pointer (some ⟨Bv,0,none⟩)] (fun x:Shs => #[Value.string x.1]) [Bs] [Bs,Bq,Bv] (fun xs=>xs.map Subtype.val=yS s) (fun pre=>pre.map Subtype.val <+: yS s) (yS s).length w:=by
 intro l J Jx W hU hz hJ hJx hY h0;have b1:Blk W Bs [.string s] 9:=hB.upd hU (by simp);have b2:Blk W Bq [.string { data := #[47] }] 9:=hQ.upd hU (by simp);have b3:Blk W Bv [.int .i64 0] 3:=hV.upd hU (by simp);have HJ:=Hi hJ;have HY:=Hi hY;have HJ0:=Hi h0;clear hJ hY h0 hJx hU hz hB hQ hV;have HB:Hid (Blk W Bs [.string s] 9∧Blk W Bq [.string { data := #[47] }] 9∧Blk W Bv [.int .i64 0] 3):=Hi ⟨b1,b2,b3⟩;have cq0:=b2.cell 0 rfl;clear b1 b2 b3;obtain ⟨hq1,hq2⟩:=hne;have HN:=Hi hq1;have HN2:=Hi hq2;clear hq1 hq2;refine callsIn_of_wp Tryz.func280 rfl trivial ?_ rfl;simp only [Tryz.ntmps280,List.size_toArray,List.length_cons,List.length_nil,Nat.reduceAdd,Nat.reduceSub,Array.replicate_succ,Array.replicate_zero,List.push_toArray,List.append_toArray,List.nil_append,List.cons_append]
 gi_wp2
 clear cq0
 gi_loopg [] s.size (fun g wr => ∃ r:ByteArray,∃ pre:List Shs,g=r.size∧r.size≤s.size∧Hid (yS s=pre.map Subtype.val++yS r)∧Hid (J pre wr)∧Hid (Blk wr Bs [.string r] 9∧Blk wr Bq [.string { data := #[47] }] 9∧Blk wr Bv [.int .i64 0] 3))
 case atStart=>exact ⟨s,[],rfl,Nat.le_refl _,Hi rfl,HJ0,HB⟩
 case round =>
  obtain ⟨r,pre,rfl,hrs,HP,HJp,HBk⟩:=hrel;clear HB HJ0;have hr1:r.size≤9223372036854775806:=by omega
  have c1:=HBk.out.1.cell 0 rfl;have c2:=HBk.out.2.1.cell 0 rfl;have c3:=HBk.out.2.2.cell 0 rfl;have hf1:=HBk.out.1.frz 0;have hlt:Bs<wr.heap.size:=HBk.out.1.lt;by_cases hc:zY (zf r)<r.size
  · have HIX:=Hi (fun w=>zeq r w hc);have HPF:=Hi (KM r hc);generalize zY (zf r)=f at *;have hlen:pre.length<(yS s).length:=(by rw [HP.out,HPF.out,List.length_append,List.length_map,List.length_cons]; omega);have hxf0:(r.extract 0 f).size≤9223372036854775807:=(by rw [ByteArray.size_extract]; omega);obtain ⟨fn,tmps,assign,body,hy,hRd⟩:=HY.out pre ⟨r.extract 0 f,hxf0⟩ wr HJp.out hlen (by intro q hq; simp at hq; subst hq; exact hlt);clear hlen;have HLT:=Hi hlt;clear hlt
    gi_wp2_with fail
    refine ⟨trivial,(callsIn_wide.2 (HIX.out _)).mono ?_⟩;rintro e w2 ⟨rfl,rfl⟩
    gi_wp2
    refine hRd.mono ?_;rintro e W3 (⟨rfl,hJ3,hk3⟩ | ⟨rfl,hJx3⟩)
    · have d1:Blk W3 Bs [.string r] 9:=(hk3.2 Bs (by simp)).trans HBk.out.1;have d2:Blk W3 Bq [.string { data := #[47] }] 9:=(hk3.2 Bq (by simp)).trans HBk.out.2.1;have d3:Blk W3 Bv [.int .i64 0] 3:=(hk3.2 Bv (by simp)).trans HBk.out.2.2;have hx1:=d1.cell 0 rfl;have hx2:=d2.cell 0 rfl;have hxf:=d1.frz 0;have HD:Hid (Blk W3 Bs [.string r] 9∧Blk W3 Bq [.string { data := #[47] }] 9∧Blk W3 Bv [.int .i64 0] 3):=Hi ⟨d1,d2,d3⟩;have HJ3:=Hi hJ3;clear d1 d2 d3 hk3 hJ3 c1 c2 c3 hf1 hy HBk;have hsz:(r.extract (f+1) r.size).size=r.size-(f+1):=(by rw [ByteArray.size_extract]; omega);have HSZ:=Hi hsz;clear hsz
      gi_wp2
      gi_roundg (r.size-(f+1))
      all_goals first
       | omega
       | (refine ⟨r.extract (f+1) r.size,pre++[⟨r.extract 0 f,hxf0⟩],HSZ.out.symm,by rw [HSZ.out]; omega,Hi (by rw [HP.out,HPF.out]; simp),Hi (HJ.out _ _ _ HJ3.out ?_),Hi ⟨?_,?_,?_⟩⟩
          · exact Wn ((Upd.refl [Bs] _).setCell (.inl (by simp)) _) (fun k hk=>hk) (fun k hk=>by simp at hk; subst hk; exact HD.out.1.cellsOnly)
          · exact HD.out.1.set 0 _
          · exact HD.out.2.1.setFar _ HN.out
          · exact HD.out.2.2.setFar _ HN2.out)
    · gi_wp2
      refine bodyPost_ret (results_none rfl _ _ _) rfl ?_;exact ⟨⟨_,rfl⟩,.inr ⟨_,by rw [HP.out,HPF.out]; exact ⟨yS (r.extract (f+1) r.size),by simp⟩,hJx3⟩⟩
  · have HIX:=Hi (fun w=>zhD r w hc);have HPF:=Hi (zaK r hc);have hlen:pre.length<(yS s).length:=(by rw [HP.out,HPF.out,List.length_append,List.length_map,List.length_cons]; omega);obtain ⟨fn,tmps,assign,body,hy,hRd⟩:=HY.out pre ⟨r,by omega⟩ wr HJp.out hlen (by intro q hq; simp at hq; subst hq; exact hlt);clear hlen hc;have HLT:=Hi hlt;clear hlt
    gi_wp2_with fail
    refine ⟨trivial,(callsIn_wide.2 (HIX.out _)).mono ?_⟩;rintro e w2 ⟨rfl,rfl⟩
    gi_wp2
    refine hRd.mono ?_;rintro e W3 (⟨rfl,hJ3,hk3⟩ | ⟨rfl,hJx3⟩)
    · gi_wp2
      go_end0
      exact ⟨⟨_,rfl⟩,.inl ⟨_,by rw [HP.out,HPF.out]; simp,hJ3⟩⟩
    · gi_wp2
      go_end0
      exact ⟨⟨_,rfl⟩,.inr ⟨_,by rw [HP.out,HPF.out]; simp,hJx3⟩⟩
end Go.Proofs.YtfkenhihcmmgkaaGreatDoor
namespace Go.Proofs.YtfkenhihcmmgkaaGreatDoor
open Go.RowKit
theorem zbR {P:Program} {c:Code} {Q:Exit→Act→World→Prop} {a:Act} {w:World} (h : ∀ fr,fr=a→c.wp P Q fr w):c.wp P Q a w:=h a rfl
theorem Upd.putObj' {fp:List Nat} {a w:World} (h:Upd fp a w) {D:Nat} (hD:a.heap.size≤D) (o:Obj):Upd fp a (w.putObj D o):=h.grown (grownBy_putObj' w D o) (fun k e=>by cases e; exact .inr hD)
end Go.Proofs.YtfkenhihcmmgkaaGreatDoor
namespace Go.Proofs.YtfkenhihcmmgkaaGreatDoor
open Go.RowKit Go.Shelf
attribute [local go_sem] Oper.semAt_some
theorem qz (w:World):Calls Tryz.prog 40 #[] w fun e w'=>e = .returned (.string { data := #[46,115,119,105,110,103,108,101] })∧w=w':=by
 go_enter Tryz.func40,Tryz.ntmps40;go_wp2;go_ret;exact ⟨rfl,rfl⟩
theorem zgC (l:List Nat) (hl : ∀ x∈l,x<256):((zg l).toList==[46,115,119,105,110,103,108,101])=decide (l=Qj):=by
 rw [xQ,zR l hl]; rfl
theorem kI (s:ByteArray) : ∀ p∈zo (zf s),∀ x∈p,x<256:=fun p hp x hx=>xf s x (vo _ p hp x hx)
theorem zcy (s x:ByteArray) (h:x∈yS s):zf x∈zo (zf s):=by
 unfold yS at h;obtain ⟨p,hp,rfl⟩:=List.mem_map.1 h;rw [zR p (kI s p hp)]; exact hp
def ziR (pre:List Shs):Prop:=pre.length≤12 ∧ ∀ x∈pre,ym (zf x.1)=true
def zhL (pre:List Shs):Prop:=12<pre.length ∨ ∃ x∈pre,ym (zf x.1)=false
theorem zf0 (s:ByteArray) (h1:s.size≤200) (h2:(zo (zf s)).headD []≠Qj) (pre:List Shs) (hp:pre.map Subtype.val=yS s) (h:ziR pre):yq (zf s)=true:=by
 obtain ⟨h3,h4⟩:=h;have hl:(zo (zf s)).length=pre.length:=by
  have:=congrArg List.length hp;rw [List.length_map] at this; unfold yS at this; rw [List.length_map] at this; omega
 refine XT (by rw [zi]; exact h1) h2 (by omega) fun p hpm=>?_;have hm:zg p∈pre.map Subtype.val:=by rw [hp]; unfold yS; exact List.mem_map_of_mem hpm
 obtain ⟨x,hx,hxe⟩:=List.mem_map.1 hm;have:=h4 x hx;rwa [hxe,zR p (kI s p hpm)] at this
theorem zhF (s:ByteArray) (pre:List Shs) (hp:pre.map Subtype.val <+: yS s) (h:zhL pre):yq (zf s)=false:=by
 rcases h with h | ⟨x,hx,hb⟩
 · have h1:=hp.length_le;unfold yS at h1;rw [List.length_map,List.length_map] at h1;exact Zn (by omega)
 · exact Yp (zcy s x.1 (hp.subset (List.mem_map_of_mem hx))) hb
theorem qW {fn:Func} {p:Tmp} (h:fn.results = #[.cell p 4]) (tmps:Array Value) (w:World) (g:Nat) (b:Bool) (hp:tmps.getD p undef = .pointer (some ⟨g,0,none⟩)) (hB:Blk w g [.bool b] 4) :
 (results fn tmps).run Tryz.prog w = .ok (.bool b) w:=by
 have hc:=hB.cell 0 rfl;have hp2:tmps[p]?.getD undef = .pointer (some ⟨g,0,none⟩):=by rw [← hp]; simp
 simp [results,h,go_sem,hp2,hc]
def NrI (s:ByteArray) (w0:World) (bn br:Nat) (pre:List Shs) (W:World):Prop:=Blk W bn [.int .i64 (pre.length:Nat)] 3∧Blk W br [.bool false] 4∧Upd [] w0 W
theorem NrI.own {s:ByteArray} {w0:World} {bn br B:Nat} (hB:w0.heap.size≤B):OwnFrom B (NrI s w0 bn br):=fun p A C row hs hg hr=>by
 obtain ⟨h1,h2,h3⟩:=hs;exact ⟨zF B bn (fun (_:Unit)=>_) _ () A C row h1 hg hr,zF B br (fun (_:Unit)=>_) _ () A C row h2 hg hr,qa B [] w0 hB () A C row h3 hg hr⟩
theorem NrI.w2 {s:ByteArray} {w0:World} {bn br bs:Nat} (h1:bn≠bs) (h2:br≠bs) (h3:w0.heap.size≤bs) : ∀ p A C,NrI s w0 bn br p A→Own2 [bs] A C→NrI s w0 bn br p C:=fun p A C hs hAC=>by
 obtain ⟨k1,k2,k3⟩:=hs;exact ⟨k1.upd hAC.1 (by simpa using h1),k2.upd hAC.1 (by simpa using h2),k3.trans hAC.1 (fun k hk=>by simp at hk; subst hk; exact .inr h3)⟩
theorem Jt (s:ByteArray) (w:World) (hs:s.size≤9223372036854775807):Calls Tryz.prog 140 #[.string s] w fun e w'=>e = .returned (.bool (yq (zf s)))∧Upd [] w w':=by
 have HC:=Hi (fun w=>ziy s w hs);have hhd : ∀ x∈(zo (zf s)).headD [],x<256:=kI s _ (by
  rw [jC (zf s)]; simp)
 have HQ:=Hi (zgC _ hhd);have HLN:=Hi (zi s);clear hhd;refine (callsIn_wide (n:=9)).1 ?_;refine callsIn_of_wp_marks Tryz.func140 rfl trivial ?_ rfl;simp only [Tryz.ntmps140,List.size_toArray,List.length_cons,List.length_nil,Nat.reduceAdd,Nat.reduceSub,Array.replicate_succ,Array.replicate_zero,List.push_toArray,List.append_toArray,List.nil_append,List.cons_append];refine wpIn_wide.2 ?_
 let QQ:Exit→Act→World→Prop:=bodyPost Tryz.prog Tryz.f140 (fun _ _=>True)
 by_cases h200:200<s.size
 · have HE:=Hi (Zp (l:=zf s) (by rw [HLN.out]; exact h200));generalize (zo (zf s)).headD []=hd at *;go_wp2_with fail
   refine (HC.out _).mono ?_;rintro e w1 ⟨⟨r,b,rfl⟩,hU1⟩;have hBr:Blk w1 w.heap.size [.bool false] 4:=(Blk.new w [.bool false] 4).upd hU1 (by simp);have cr:=hBr.cell 0 rfl;have fr:=hBr.frz 0;have HBr:=Hi hBr;have HUU:=Hi (((Upd.refl [] w).alloc (.cells #[.bool false] 4)).then hU1);clear hU1 hBr;go_wp2;exact ⟨.bool false,qW rfl _ _ w.heap.size false rfl (HBr.out.set 0 _),by rw [HE.out],HUU.out.setCell (.inr (Nat.le_refl _)) _⟩
 · by_cases hres:(zo (zf s)).headD []=Qj
   · have HE:=Hi (YH (l:=zf s) hres);have t1:=HQ.out.trans (decide_eq_true hres);clear hres HQ;generalize (zo (zf s)).headD []=hd at *;(go_wp2_with fail);refine (HC.out _).mono ?_;rintro e w1 ⟨⟨r,b,rfl⟩,hU1⟩;have hBr:Blk w1 w.heap.size [.bool false] 4:=(Blk.new w [.bool false] 4).upd hU1 (by simp);have cr:=hBr.cell 0 rfl;have fr:=hBr.frz 0;have HBr:=Hi hBr;have HUU:=Hi (((Upd.refl [] w).alloc (.cells #[.bool false] 4)).then hU1);clear hU1 hBr;(go_wp2_with (go_at_call 40; refine (qz _).mono ?_; rintro e w' ⟨rfl,rfl⟩));exact ⟨.bool false,qW rfl _ _ w.heap.size false rfl (HBr.out.set 0 _),by rw [HE.out],HUU.out.setCell (.inr (Nat.le_refl _)) _⟩
   · have HN:=Hi hres;have t1:=HQ.out.trans (decide_eq_false hres);have hs2:s.size≤200:=(by omega);have HDN:=Hi (zf0 s hs2 hres);have HNT:=Hi (zhF s);clear hres HQ HN;generalize (zo (zf s)).headD []=hd at *;(go_wp2_with fail);refine (HC.out _).mono ?_;rintro e w1 ⟨⟨r,b,rfl⟩,hU1⟩;have HBr:Hid (Blk w1 w.heap.size [.bool false] 4):=Hi ((Blk.new w [.bool false] 4).upd hU1 (by simp));have HUU:=Hi (((Upd.refl [] w).alloc (.cells #[.bool false] 4)).then hU1);clear hU1;(go_wp2_with (go_at_call 40; refine (qz _).mono ?_; rintro e w' ⟨rfl,rfl⟩));have HBn:Hid (Blk (w1.alloc (.cells #[.int .i64 0] 3)) w1.heap.size [.int .i64 (([]:List Shs).length:Nat)] 3):=Hi (Blk.new w1 [.int .i64 0] 3);have hA2:Upd [] w1 (w1.alloc (.cells #[.int .i64 0] 3)):=(Upd.refl _ _).alloc _;have HBr2:=Hi (HBr.out.upd hA2 (by simp));have HU2:=Hi (HUU.out.then hA2);have hz2:w1.heap.size<(w1.alloc (.cells #[.int .i64 0] 3)).heap.size:=(by simp);clear hA2 HUU;have hlt0:=HBr.out.lt;have hle0:w.heap.size≤w1.heap.size:=(by omega);clear HBr;generalize w1.alloc (.cells #[.int .i64 0] 3)=w2 at *;obtain ⟨bn,hbn⟩ : ∃ bn,w1.heap.size=bn:=⟨_,rfl⟩;rw [hbn] at HBn hz2 hlt0 hle0 ⊢;clear hbn;(go_wp2_with fail);refine (KL s w2).mono ?_;rintro e w3 ⟨rfl,hw3⟩;have HS3:Hid (Blk w3 w2.heap.size [.string s] 9∧Blk w3 (w2.heap.size+1) [.string { data := #[47] }] 9∧Blk w3 (w2.heap.size+2) [.int .i64 0] 3):=Hi (by
      rw [hw3];refine ⟨((Blk.new w2 [.string s] 9).alloc _).alloc _,?_,?_⟩
      · have:=(Blk.new (w2.alloc (.cells #[.string s] 9)) [.string { data := #[47] }] 9).alloc (.cells #[.int .i64 0] 3);rw [World.size_alloc] at this; exact this
      · have:=Blk.new ((w2.alloc (.cells #[.string s] 9)).alloc (.cells #[.string { data := #[47] }] 9)) [.int .i64 0] 3;rw [World.size_alloc,World.size_alloc] at this; exact this)
     have hA3:Upd [] w2 w3:=(by rw [hw3]; exact (((Upd.refl _ _).alloc _).alloc _).alloc _);have hz3:w3.heap.size=w2.heap.size+3:=(by rw [hw3]; simp);have HBn3:=Hi (HBn.out.upd hA3 (by simp));have HBr3:=Hi (HBr2.out.upd hA3 (by simp));have HU3:=Hi (HU2.out.then hA3);clear hw3 hA3 HBn HBr2 HU2;obtain ⟨bs,hbs⟩ : ∃ bs,w2.heap.size=bs:=⟨_,rfl⟩;rw [hbs] at HS3 hz3 hz2 ⊢;clear hbs;have hw30:w.heap.size≤w3.heap.size:=HU3.out.size;(go_wp2_with fail);refine zbR ?_;intro fr hfr;refine Code.wp_mono (Q:=fun e a' W=>(e = .normal∨e = .ret) ∧ ∃ D pre,a' = { fr with defers := { target := .collected D,args := #[] }::fr.defers }∧w3.heap.size≤D∧W.heap[D]? =some (.deferred (some []))∧Blk W w.heap.size [.bool false] 4∧Upd [] w W ∧
      Hid ((e = .normal∧pre.map Subtype.val=yS s∧ziR pre)∨(e = .ret∧pre.map Subtype.val <+: yS s∧zhL pre))) ?cont ((wpIn_wide (n:=9)).1 ?main)
     case main =>
      refine zjC (gf:=280) (lb := #[.pointer (some ⟨bs+1,0,none⟩),.pointer (some ⟨bs,0,none⟩),.pointer (some ⟨bs+2,0,none⟩)]) (by rw [hfr]; rfl) (enters_of Tryz.func280 (by kernel_rfl) rfl)
       (zez bs (bs+1) (bs+2) s w3 HS3.out.1 HS3.out.2.1 HS3.out.2.2 ⟨by omega,by omega⟩ (by omega)) (by intro k hk; simp at hk; omega) (fun _=>rfl)
       (fun pre W=>NrI s w bn w.heap.size pre W∧Hid (ziR pre))
       (fun c pre W=>(c = .ret∧Hid (zhL pre))∧NrI s w bn w.heap.size pre W)
       ?act
       (OwnFrom.and (NrI.own hw30) (ownFrom_pure _ _)) (fun c=>OwnFrom.and (ownFrom_pure _ _) (NrI.own hw30))
       ?iw ?ixw ⟨⟨HBn3.out,HBr3.out,HU3.out⟩,Hi ⟨by simp,by simp⟩⟩ ?assign ?body ?done ?stop
      case assign =>
       intro L1 x W K hK;subst hfr
       gi_wp2
       exact hK
      case iw =>
       rintro s' A C ⟨h1,h2⟩ hAC;exact ⟨NrI.w2 (by omega) (by omega) (by omega) _ A C h1 hAC,h2⟩
      case ixw =>
       rintro c s' A C ⟨h1,h2⟩ hAC;exact ⟨h1,NrI.w2 (by omega) (by omega) (by omega) _ A C h2 hAC⟩
      case body =>
       rintro L1 pre x W hsz hfp ⟨⟨hn,hr,hU⟩,hA⟩ hlt;subst hfr;have n0:=hn.cell 0 rfl;have nf:=hn.frz 0;have r0:=hr.cell 0 rfl;have rf:=hr.frz 0;have HNb:=Hi hn;have HRb:=Hi hr;have HUb:=Hi hU;have hp0:(pre.length:Int)≤12:=(by have:=hA.out.1; omega);have HPT:=Hi (fun w=>zgl x.1 w x.2);clear hn hr hU hlt hfp;have hbw:w.heap.size≠bn:=(by omega);have r1:(W.setCell ⟨bn,0,none⟩ (.int .i64 ((pre.length:Int)+1))).cell? ⟨w.heap.size,0,none⟩=some (.bool false):=(HRb.out.setFar (a:=⟨bn,0,none⟩) _ hbw).cell 0 rfl;have rf1:(W.setCell ⟨bn,0,none⟩ (.int .i64 ((pre.length:Int)+1))).frozen? ⟨w.heap.size,0,none⟩=false:=(HRb.out.setFar (a:=⟨bn,0,none⟩) _ hbw).frz 0;have hn1:Blk (W.setCell ⟨bn,0,none⟩ (.int .i64 ((pre.length:Int)+1))) bn [.int .i64 ((pre++[x]).length:Nat)] 3:=by
        have:=HNb.out.set 0 (.int .i64 ((pre.length:Int)+1));rw [List.length_append]; exact this
       have hr1:=HRb.out.setFar (a:=⟨bn,0,none⟩) (.int .i64 ((pre.length:Int)+1)) hbw;have hU1:Upd [] w (W.setCell ⟨bn,0,none⟩ (.int .i64 ((pre.length:Int)+1))):=HUb.out.setCell (.inr (by simp; omega)) _;have hUx:Upd [bn] W (W.setCell ⟨bn,0,none⟩ (.int .i64 ((pre.length:Int)+1))):=(Upd.refl _ _).setCell (.inl (by simp)) _;have hK1:KeepsFrom w3.heap.size W (W.setCell ⟨bn,0,none⟩ (.int .i64 ((pre.length:Int)+1))):=(hUx.others (fun k hk=>by simp at hk; subst hk; exact HNb.out.cellsOnly)).from _;have hKp:Keep [bs,bs+1,bs+2] W (W.setCell ⟨bn,0,none⟩ (.int .i64 ((pre.length:Int)+1))):=Keep.of_upd hUx (fun k hk=>by simp at hk; constructor<;>(try simp)<;>omega);have HN1:=Hi hn1;have HR1:=Hi hr1;have HU1:=Hi hU1;have HK1:=Hi hK1;have HKP:=Hi hKp;have hlt1:bn<(W.setCell ⟨bn,0,none⟩ (.int .i64 ((pre.length:Int)+1))).heap.size:=hn1.lt;clear hn1 hr1 hU1 hUx hK1 hKp;cases hpo:ym (zf x.1) with
       | true =>
         rw [hpo] at HPT;by_cases h12:pre.length+1≤12
         · have h12':(pre.length:Int)+1≤12:=(by omega);have HAN:Hid (ziR (pre++[x])):=Hi ⟨by simp; omega,fun y hy=>by
            rcases List.mem_append.1 hy with hy | hy
            · exact hA.out.2 y hy
            · simp at hy; subst hy; exact hpo⟩
           clear hpo h12
           gi_wp2_with fail
           refine ⟨trivial,(CallsIn.inRound L1 (callsIn_wide.2 (HPT.out _))).mono ?_⟩;rintro e W2 ⟨rfl,rfl⟩
           gi_wp2
           exact ⟨HK1.out,HKP.out,⟨HN1.out,HR1.out,HU1.out⟩,HAN⟩
         · have h12':12<(pre.length:Int)+1:=(by omega);have HAN:Hid (zhL (pre++[x])):=Hi (.inl (by simp; omega));clear hpo h12
           gi_wp2_with fail
           refine ⟨trivial,(CallsIn.inRound L1 (callsIn_wide.2 (HPT.out _))).mono ?_⟩;rintro e W2 ⟨rfl,rfl⟩
           gi_wp2
           have hUy:Upd [w.heap.size] (W.setCell ⟨bn,0,none⟩ (.int .i64 ((pre.length:Int)+1))) ((W.setCell ⟨bn,0,none⟩ (.int .i64 ((pre.length:Int)+1))).setCell ⟨w.heap.size,0,none⟩ (.bool false)):=(Upd.refl _ _).setCell (.inl (by simp)) _;refine ⟨HK1.out.trans ((hUy.others (fun k hk=>by simp at hk; subst hk; exact HR1.out.cellsOnly)).from _),⟨rfl,HAN⟩,HN1.out.setFar _ (by simp; omega),HR1.out.set 0 _,HU1.out.setCell (.inr (Nat.le_refl _)) _⟩
       | false =>
         rw [hpo] at HPT;have HAN:Hid (zhL (pre++[x])):=Hi (.inr ⟨x,by simp,hpo⟩);clear hpo
         gi_wp2_with fail
         refine ⟨trivial,(CallsIn.inRound L1 (callsIn_wide.2 (HPT.out _))).mono ?_⟩;rintro e W2 ⟨rfl,rfl⟩
         gi_wp2
         have hUy:Upd [w.heap.size] (W.setCell ⟨bn,0,none⟩ (.int .i64 ((pre.length:Int)+1))) ((W.setCell ⟨bn,0,none⟩ (.int .i64 ((pre.length:Int)+1))).setCell ⟨w.heap.size,0,none⟩ (.bool false)):=(Upd.refl _ _).setCell (.inl (by simp)) _;refine ⟨HK1.out.trans ((hUy.others (fun k hk=>by simp at hk; subst hk; exact HR1.out.cellsOnly)).from _),⟨rfl,HAN⟩,HN1.out.setFar _ (by simp; omega),HR1.out.set 0 _,HU1.out.setCell (.inr (Nat.le_refl _)) _⟩
      case done =>
       rintro D xs W hD hxs ⟨⟨hn,hr,hU⟩,hA⟩ hK;exact ⟨.inl rfl,D,_,rfl,hD,hK,hr,hU,Hi (.inl ⟨rfl,hxs,hA.out⟩)⟩
      case stop =>
       rintro D c pre W hD hpre ⟨⟨rfl,hA⟩,hn,hr,hU⟩ hK;refine wpIn_ret ?_;exact ⟨.inr rfl,D,pre,rfl,hD,hK,hr,hU,Hi (.inr ⟨rfl,hpre,hA.out⟩)⟩
     case cont =>
      rintro e a' wz ⟨he,D,pre,rfl,hD,hDk,hr,hU,HP⟩;subst hfr;have HR:=Hi hr;have HU:=Hi hU;have r0:=hr.cell 0 rfl;have rf:=hr.frz 0;have HDk:=Hi hDk;have hwD:w.heap.size≤D:=(by omega);have hDlt:D<wz.heap.size:=(Array.getElem?_eq_some_iff.1 hDk).1;clear hr hU hDk;rcases HP.out with ⟨rfl,hpp,hA⟩ | ⟨rfl,hpp,hA⟩
      · have HE:=Hi (HDN.out pre hpp hA);clear HP hpp hA he;go_wp2;have hk9:(wz.setCell ⟨w.heap.size,0,none⟩ (.bool true)).heap[D]? =some (.deferred (some [])):=(Below.heap_setCell _ _ _ _ (by simp; omega)).trans HDk.out;refine ⟨by simp,.inl ⟨_,_,rfl,run_takeDeferred hk9,?_⟩⟩;have hB9:Blk ((wz.setCell ⟨w.heap.size,0,none⟩ (.bool true)).putObj D (.deferred none)) w.heap.size [.bool true] 4:=(World.putObj_heap_other (by omega)).trans (HR.out.set 0 _);exact ⟨.bool true,qW rfl _ _ w.heap.size true rfl hB9,by rw [HE.out],(HU.out.setCell (.inr (Nat.le_refl _)) _).putObj' hwD _⟩
      · have HE:=Hi (HNT.out pre hpp hA);clear HP hpp hA he;go_wp2;refine ⟨by simp,.inl ⟨_,_,rfl,run_takeDeferred HDk.out,?_⟩⟩;have hB9:Blk (wz.putObj D (.deferred none)) w.heap.size [.bool false] 4:=(World.putObj_heap_other (by omega)).trans HR.out;exact ⟨.bool false,qW rfl _ _ w.heap.size false rfl hB9,by rw [HE.out],HU.out.putObj' hwD _⟩
end Go.Proofs.YtfkenhihcmmgkaaGreatDoor
namespace Go.Proofs.YtfkenhihcmmgkaaGreatDoor
open Go.RowKit
theorem zit:(Tryz.prog.info? 9).map (fun i=>(i.zero,i.size,i.bytes))=some (some (.string .empty),1,16):=by kernel_rfl
def zhw (l:List Nat):Value := .string (zg l)
theorem zcQ (s:ByteArray) (cur:List Nat) (i:Nat) (h:i<s.size):zg cur++s.extract i (i+1)=zg (cur++[s[i].toNat]):=by
 rw [← zI]
 congr 1
 rw [← zE (s.extract i (i+1)),zW]
 congr 1
 rw [show i+1-i=1 by omega,List.drop_eq_getElem_cons (by rw [zi]; exact h),xd s i h]; rfl
theorem Ws (s:ByteArray) (w:World) (hs:s.size≤1100000):Calls Tryz.prog 151 #[.string s] w fun e w' =>
 ∃ g cap,e = .returned (.slice (some ⟨g,0,none⟩) (zo (zf s)).length cap)∧w.heap.size≤g∧Row w' 9 1 (.slice (some ⟨g,0,none⟩) (zo (zf s)).length cap) (zo (zf s)).length ((zo (zf s)).map zhw)∧Upd [] w w':=by
 obtain ⟨i0,hi,hz0,hz1,hz2⟩:=info_parts zit;go_enter Tryz.func151,Tryz.ntmps151;go_wp2;go_loopg [3,4,5] s.size (fun g v t c wr => ∃ (i:Nat) (done:List (List Nat)) (cur:List Nat),i≤s.size∧done.length≤i∧cur.length≤i∧t = .string (zg cur)∧c = .int .i64 (i:Nat)∧g=s.size-i∧Hid (zo (zf s)=done++vL cur (zo ((zf s).drop i)))∧Hid (Row wr 9 1 v done.length (done.map zhw))∧Hid (∀ b,v.ownBlock=some b→w.heap.size≤b)∧Hid (Upd [] w wr))
 case atStart=>exact ⟨0,[],[],Nat.zero_le _,Nat.zero_le _,Nat.zero_le _,rfl,rfl,rfl,Hi (by rw [List.drop_zero,Vz]; rfl),Hi (Row.nil _ _ _),Hi (by simp [Value.ownBlock]),Hi (Upd.refl _ _)⟩
 case round =>
  obtain ⟨i,done,cur,hi1,hd,hcu,rfl,rfl,rfl,HS,HR,HB,HU⟩:=hrel;obtain ⟨va,vc,hv⟩:=HR.out.form;subst hv;by_cases hc:i<s.size
  · have hbl:s[i].toNat<256:=s[i].toNat_lt;have HC:=Hi (zcQ s cur i hc);have hdr:(zf s).drop i=s[i].toNat::(zf s).drop (i+1):=by
     rw [List.drop_eq_getElem_cons (by rw [zi]; exact hc),xd s i hc]
    have HD:=Hi hdr;have hsz:(zg cur).size=cur.length:=zk cur;clear hdr;by_cases h47:s[i].toNat=47
    · have t1:((s[i].toNat:Int)==47)=true:=(by rw [beq_iff_eq]; omega);have HS2:Hid (zo (zf s)=(done++[cur])++vL [] (zo ((zf s).drop (i+1)))):=Hi (by rw [HS.out,HD.out,h47,zbn]; simp);clear h47 HS HC HD;(go_wp2_with (at_builtin; refine zH _ rfl _ _ 147 rfl 9 i0 _ 1 16 Tryz.underlying147 hi hz0 hz1 hz2 rfl (by omega) (.slice va done.length vc) done.length _ rfl (HR.out.alloc _) ⟨wr.heap.size,0,none⟩ 1 1 [_] rfl rfl (World.news_of_block (cs := #[_]) (t:=9) (fr:=(0,0)) (heap_alloc_new _ _)) (by simp [Value.oneCell']) (by unfold maxLen; omega) (by omega) ?_));rintro v9 w9 hR9 hU9 hT9;obtain ⟨va9,vc9,rfl⟩:=hR9.form;have hB9 : ∀ b,(Value.slice va9 (done.length+1) vc9).ownBlock=some b→w.heap.size≤b:=fun b hb=>by
       have:=HU.out.size;rcases hT9 with e | ⟨g,e1,e2⟩
       · exact HB.out b (by rw [← e]; exact hb)
       · rw [hb] at e1; simp at e1 e2; omega
      have HF:Hid (Row w9 9 1 (.slice va9 (done.length+1) vc9) (done++[cur]).length ((done++[cur]).map zhw)∧(∀ b,(Value.slice va9 (done.length+1) vc9).ownBlock=some b→w.heap.size≤b)∧Upd [] w w9):=Hi ⟨by
       rw [List.length_append,List.map_append]; exact hR9,hB9,(HU.out.then ((Upd.refl _ _).alloc _)).trans hU9 (fun k hk => .inr (HB.out k (by simpa using hk)))⟩
      clear hR9 hU9 hT9 hB9 HR HB HU;go_wp2;go_roundg (s.size-(i+1));all_goals first
       | omega
       | exact ⟨i+1,done++[cur],[],by omega,by simp; omega,by simp,rfl,by go_num,rfl,HS2,Hi HF.out.1,Hi HF.out.2.1,Hi HF.out.2.2⟩
    · have t1:((s[i].toNat:Int)==47)=false:=(by rw [beq_eq_false_iff_ne]; omega);have HS2:Hid (zo (zf s)=done++vL (cur++[s[i].toNat]) (zo ((zf s).drop (i+1)))):=Hi (by rw [HS.out,HD.out,zcq _ _ _ h47]);clear h47 HS HD;go_wp2;go_roundg (s.size-(i+1));all_goals first
       | omega
       | exact ⟨i+1,done,cur++[s[i].toNat],by omega,by omega,by simp; omega,by rw [HC.out],by go_num,rfl,HS2,HR,HB,HU⟩
  · have hlen:=zi s;have HS2:Hid (zo (zf s)=done++[cur]):=Hi (by rw [HS.out,List.drop_of_length_le (by omega)]; simp [zo,vL]);clear HS hlen;(go_wp2_with (at_builtin; refine zH _ rfl _ _ 147 rfl 9 i0 _ 1 16 Tryz.underlying147 hi hz0 hz1 hz2 rfl (by omega) (.slice va done.length vc) done.length _ rfl (HR.out.alloc _) ⟨wr.heap.size,0,none⟩ 1 1 [_] rfl rfl (World.news_of_block (cs := #[_]) (t:=9) (fr:=(0,0)) (heap_alloc_new _ _)) (by simp [Value.oneCell']) (by unfold maxLen; omega) (by omega) ?_));rintro v9 w9 hR9 hU9 hT9;obtain ⟨g,cap,rfl,hg1,hg2⟩:=hR9.form' (by omega);have hB9:w.heap.size≤g:=by
     have:=HU.out.size;rcases hT9 with e | ⟨g',e1,e2⟩
     · exact HB.out g (by rw [← e]; rfl)
     · simp [Value.ownBlock] at e1 e2; omega
    have HF:=Hi hR9;have HUU:=Hi ((HU.out.then ((Upd.refl _ _).alloc _)).trans hU9 (fun k hk => .inr (HB.out k (by simpa using hk))));clear hR9 hU9 hT9 HR HB HU;go_wp2;go_ret;refine ⟨g,cap,?_,hB9,?_,HUU.out⟩
    · rw [HS2.out,List.length_append]; rfl
    · rw [HS2.out,List.length_append,List.map_append]; exact HF.out
theorem zgZ (l:List Nat):((zo l).map zhw)[0]? =some (.string (zg ((zo l).headD []))):=by
 rw [jC l]; rfl
theorem VT (s:ByteArray) (w:World) (hs:s.size≤1100000):Calls Tryz.prog 85 #[.string s] w fun e w'=>e = .returned (.bool (yq (zf s)))∧Upd [] w w':=by
 have HSP:=Hi (Ws s w hs);have hhd : ∀ x∈(zo (zf s)).headD [],x<256:=kI s _ (by
  rw [jC (zf s)]; simp)
 have HQ:=Hi (zgC _ hhd);have HLN:=Hi (zi s);have HH:=Hi (zgZ (zf s));have HLT:=Hi (kI s);have hpl:=Yt (zf s);rw [zi] at hpl;have HPL:=Hi (kg (zf s));have hpos:0<(zo (zf s)).length:=List.length_pos_iff.2 (VJ _);clear hhd;go_enter Tryz.func85,Tryz.ntmps85;go_wp2_with fail
 refine HSP.out.mono ?_;rintro e w1 ⟨g,cap,rfl,hg,hR,hU⟩;have HR:=Hi hR;have HU:=Hi hU;clear hR hU HSP;obtain ⟨P,hP⟩ : ∃ P,zo (zf s)=P:=⟨_,rfl⟩;have HP:=Hi hP;rw [hP] at HR HQ HLT HPL HH hpos hpl ⊢;clear hP;by_cases h200:200<s.size
 · have HE:=Hi (Zp (l:=zf s) (by rw [HLN.out]; exact h200));go_wp2;go_ret;exact ⟨by rw [HE.out]; rfl,HU.out⟩
 · by_cases h12:12<P.length
   · have HE:=Hi (Zn (l:=zf s) (by rw [HP.out]; exact h12));go_wp2;go_ret;exact ⟨by rw [HE.out]; rfl,HU.out⟩
   · have c0:=HR.out.cell 0 HH.out;by_cases hres:P.headD []=Qj
     · have HE:=Hi (YH (l:=zf s) (by rw [HP.out]; exact hres));have t1:=HQ.out.trans (decide_eq_true hres);clear hres;generalize P.headD []=hd at *;go_wp2;go_ret;exact ⟨by rw [HE.out]; rfl,HU.out⟩
     · have t1:=HQ.out.trans (decide_eq_false hres);have HNE:Hid ((zo (zf s)).headD []≠Qj):=Hi (by rw [HP.out]; exact hres);clear hres;generalize P.headD []=hd at *;go_wp2;go_loopg [24] P.length (fun g' t wr => ∃ k:Nat,k≤P.length∧t = .int .i64 (k:Nat)∧g'=P.length-k∧Hid (∀ (i:Nat) p,i<k→P[i]? =some p→ym p=true)∧w1=wr)
       case atStart=>exact ⟨0,Nat.zero_le _,rfl,rfl,Hi (fun i p h=>by omega),rfl⟩
       case round =>
        obtain ⟨k,hk,rfl,rfl,HA,rfl⟩:=hrel;clear c0 t1;by_cases hc:k<P.length
        · have hgk:(P.map zhw)[k]? =some (.string (zg P[k])):=(by rw [List.getElem?_map,List.getElem?_eq_getElem hc]; rfl);have ck:=HR.out.cell k hgk;have hmem:P[k]∈P:=List.getElem_mem hc;have hpz:(zg P[k]).size≤1100000:=(by rw [zk]; have:=HPL.out _ hmem; have:=HLN.out; omega);have HPT:=Hi (fun w=>zeV (zg P[k]) w hpz);rw [zR _ (HLT.out _ hmem)] at HPT;have HM:Hid (P[k]∈zo (zf s)):=Hi (by rw [HP.out]; exact hmem);have HGK:Hid (P[k]? =some P[k]):=Hi (List.getElem?_eq_getElem hc);clear hgk hmem hpz;obtain ⟨p,hp⟩ : ∃ p,P[k]=p:=⟨_,rfl⟩;rw [hp] at ck HPT HM HGK;clear hp;cases hpo:ym p with
          | true =>
            rw [hpo] at HPT;have HA2:Hid (∀ (i:Nat) p,i<k+1→P[i]? =some p→ym p=true):=Hi (fun i q h1 h2=>by
             by_cases e:i=k
             · subst e; rw [HGK.out] at h2; simp at h2; subst h2; exact hpo
             · exact HA.out i q (by omega) h2)
            clear hpo HA HM HGK;(go_wp2_with (go_at_call 152; refine (HPT.out _).mono ?_; rintro e w' ⟨rfl,rfl⟩));go_roundg (P.length-(k+1));all_goals first
             | omega
             | exact ⟨k+1,by omega,by go_num,rfl,HA2,rfl⟩
          | false =>
            rw [hpo] at HPT;have HE:=Hi (Yp HM.out hpo);clear hpo HA HM HGK;(go_wp2_with (go_at_call 152; refine (HPT.out _).mono ?_; rintro e w' ⟨rfl,rfl⟩));go_ret;exact ⟨by rw [HE.out]; rfl,HU.out⟩
        · have HE:Hid (yq (zf s)=true):=Hi (XT (by rw [HLN.out]; omega) HNE.out (by rw [HP.out]; omega) (fun p hp=>by
           rw [HP.out] at hp;obtain ⟨i,hi,e⟩:=List.getElem_of_mem hp;exact HA.out i p (by omega) (by rw [List.getElem?_eq_getElem hi,e])))
          clear HA;go_wp2;go_ret;exact ⟨by rw [HE.out]; rfl,HU.out⟩
end Go.Proofs.YtfkenhihcmmgkaaGreatDoor
