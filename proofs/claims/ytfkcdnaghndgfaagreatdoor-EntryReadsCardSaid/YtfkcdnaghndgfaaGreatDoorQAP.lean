/- Package swingleref13: Part. -/
import Derived.Test.YtfkcdnaghndgfaaGreatDoorQAO
import Derived.Test.YtfkcdnaghndgfaaGreatDoorQAN
import Derived.RangeFuncOwn
import Derived.Test.YtfkcdnaghndgfaaGreatDoorQAA
set_option linter.unusedVariables false
set_option linter.unusedSimpArgs false
set_option linter.unusedSectionVars false
namespace Go.Proofs.YtfkcdnaghndgfaaGreatDoor
open Go.RowKit
set_option maxRecDepth 100000 in
set_option maxHeartbeats 4000000 in
theorem zd8 (s:ByteArray) (w:World) (hs:s.size≤1100000):Calls Tryz.prog 91 #[.string s] w fun e w'=>e = .returned (.bool (yd (za s)))∧w=w':=by
 go_enter Tryz.func91,Tryz.ntmps91
 go_wp2
 go_loopg [3] s.size (fun g t wr => ∃ k:Nat,k≤s.size∧t = .int .i64 (k:Nat)∧g=s.size-k∧Hid (∀ i c:Nat,i<k→(za s)[i]? =some c→Qf c=false)∧w=wr)
 case atStart=>exact ⟨0,Nat.zero_le _,rfl,rfl,Lib.hid (fun i c h=>by omega),rfl⟩
 case round =>
  obtain ⟨k,hk,rfl,rfl,HA,rfl⟩:=hrel
  by_cases hc:k<s.size
  · have HG:=Lib.hid (bytesOf_get? s k hc)
    cases hb:Qf s[k].toNat with
    | true =>
      have HE:=Lib.hid (Yh HG.out hb)
      unfold Qf at hb
      have HB:=Lib.hid hb
      clear hb HA HG
      have fin : ∀ b:Bool,b=false→Ending.returned (.bool b) = .returned (.bool (yd (za s))):=fun b h=>by rw [h,HE.out]
      have FIN:=Lib.hid fin
      clear fin
      by_cases c1:s[k].toNat<32
      · have t1:decide ((s[k].toNat:Int)<32)=true:=decide_eq_true (by omega)
        go_wp2
        go_ret
        exact ⟨FIN.out _ rfl,rfl⟩
      · have t1:decide ((s[k].toNat:Int)<32)=false:=decide_eq_false (by omega)
        by_cases c2:s[k].toNat=127
        · have t2:((s[k].toNat:Int)==127)=true:=by rw [beq_iff_eq]; omega
          clear c1 c2
          go_wp2
          go_ret
          exact ⟨FIN.out _ rfl,rfl⟩
        · have t2:((s[k].toNat:Int)==127)=false:=by rw [beq_eq_false_iff_ne]; omega
          by_cases c3:s[k].toNat=47
          · have t3:((s[k].toNat:Int)==47)=true:=by rw [beq_iff_eq]; omega
            clear c1 c2 c3
            go_wp2
            go_ret
            exact ⟨FIN.out _ rfl,rfl⟩
          · have t3:((s[k].toNat:Int)==47)=false:=by rw [beq_eq_false_iff_ne]; omega
            by_cases c4:s[k].toNat=92
            · have t4:((s[k].toNat:Int)==92)=true:=by rw [beq_iff_eq]; omega
              clear c1 c2 c3 c4
              go_wp2
              go_ret
              exact ⟨FIN.out _ rfl,rfl⟩
            · have t4:((s[k].toNat:Int)==92)=false:=by rw [beq_eq_false_iff_ne]; omega
              have t5:((s[k].toNat:Int)==58)=true:=by
               have:=HB.out
               simp [c1,c2,c3,c4] at this
               rw [beq_iff_eq]; omega
              clear c1 c2 c3 c4
              go_wp2
              go_ret
              exact ⟨FIN.out _ rfl,rfl⟩
    | false =>
      have HA2:Hid (∀ i c:Nat,i<k+1→(za s)[i]? =some c→Qf c=false):=Lib.hid (fun i c h1 h2=>by
       by_cases e:i=k
       · subst e; rw [HG.out] at h2; simp at h2; subst h2; exact hb
       · exact HA.out i c (by omega) h2)
      unfold Qf at hb
      simp only [Bool.or_eq_false_iff,decide_eq_false_iff_not] at hb
      obtain ⟨⟨⟨⟨c1,c2⟩,c3⟩,c4⟩,c5⟩:=hb
      have t1:decide ((s[k].toNat:Int)<32)=false:=decide_eq_false (by omega)
      have t2:((s[k].toNat:Int)==127)=false:=by rw [beq_eq_false_iff_ne]; omega
      have t3:((s[k].toNat:Int)==47)=false:=by rw [beq_eq_false_iff_ne]; omega
      have t4:((s[k].toNat:Int)==92)=false:=by rw [beq_eq_false_iff_ne]; omega
      have t5:((s[k].toNat:Int)==58)=false:=by rw [beq_eq_false_iff_ne]; omega
      clear c1 c2 c3 c4 c5 HA HG
      go_wp2
      go_roundg (s.size-(k+1))
      all_goals first
       | omega
       | exact ⟨k+1,by omega,by go_num,rfl,HA2,rfl⟩
  · have hlen:=zc s
    have HE:=Lib.hid (Ve (l:=za s) (fun i c h=>HA.out i c (by have:=(List.getElem?_eq_some_iff.1 h).1; omega) h))
    rw [hlen] at HE
    obtain rfl:k=s.size:=by omega
    have HL:=Lib.hid (fun w=>zgL s w hs)
    have HD1:=Lib.hid (zf7 s)
    have HD2:=Lib.hid (zdd s)
    clear hlen HA hc hk
    by_cases c1:1≤s.size
    · by_cases c2:s.size≤60
      · by_cases c3:za s=[46]
        · have t3:(s.toList==[46])=true:=HD1.out.trans (decide_eq_true c3)
          have HZ:Hid (yd (za s)=false):=Lib.hid (by rw [HE.out]; simp [c3])
          clear c3
          go_wp2
          go_ret
          exact ⟨by rw [HZ.out]; rfl,rfl⟩
        · have t3:(s.toList==[46])=false:=HD1.out.trans (decide_eq_false c3)
          by_cases c4:za s=[46,46]
          · have t4:(s.toList==[46,46])=true:=HD2.out.trans (decide_eq_true c4)
            have HZ:Hid (yd (za s)=false):=Lib.hid (by rw [HE.out]; simp [c4])
            clear c3 c4
            go_wp2
            go_ret
            exact ⟨by rw [HZ.out]; rfl,rfl⟩
          · have t4:(s.toList==[46,46])=false:=HD2.out.trans (decide_eq_false c4)
            have HZ:Hid (yd (za s)=jX (za s)):=Lib.hid (by rw [HE.out,decide_eq_true c1,decide_eq_true c2,decide_eq_true c3,decide_eq_true c4]; simp)
            clear c3 c4
            go_wp2_with (go_at_call 136; refine (HL.out _).mono ?_; rintro e w' ⟨rfl,rfl⟩)
            go_ret
            exact ⟨by rw [HZ.out]; rfl,rfl⟩
      · have HZ:Hid (yd (za s)=false):=Lib.hid (by rw [HE.out,decide_eq_false c2]; simp)
        go_wp2
        go_ret
        exact ⟨by rw [HZ.out]; rfl,rfl⟩
    · have HZ:Hid (yd (za s)=false):=Lib.hid (by rw [HE.out,decide_eq_false c1]; simp)
      go_wp2
      go_ret
      exact ⟨by rw [HZ.out]; rfl,rfl⟩
end Go.Proofs.YtfkcdnaghndgfaaGreatDoor
namespace Go.Proofs.YtfkcdnaghndgfaaGreatDoor
open Go.RowKit Go.Shelf
attribute [local go_sem] Oper.semAt_some
def yL (s:ByteArray):List ByteArray:=(zi (za s)).map zd
theorem Kh (s:ByteArray) (h:zM (za s)<s.size):yL s=s.extract 0 (zM (za s))::yL (s.extract (zM (za s)+1) s.size):=by
 unfold yL
 rw [vh _ (by rw [zc]; exact h),List.map_cons,← jN,zK,List.take_of_length_le (by rw [List.length_drop,zc]; omega)]
theorem za2 (s:ByteArray) (h : ¬ zM (za s)<s.size):yL s=[s]:=by
 unfold yL
 rw [vL _ (by rw [zc]; exact h),List.map_cons,zz]; rfl
abbrev Shs := { x:ByteArray // x.size≤9223372036854775807 }
theorem Kl (s:ByteArray) (w:World):Calls Tryz.prog 133 #[.string s,.string { data := #[47] }] w fun e w' =>
 e = .returned (.func (.func 201) #[] #[.pointer (some ⟨w.heap.size+1,0,none⟩),.pointer (some ⟨w.heap.size,0,none⟩),.pointer (some ⟨w.heap.size+2,0,none⟩)]) ∧
 w'=((w.alloc (.cells #[.string s] 9)).alloc (.cells #[.string { data := #[47] }] 9)).alloc (.cells #[.int .i64 0] 3):=by
 have h1:Calls Tryz.prog 169 #[.string s,.string { data := #[47] },.int .i64 0] w fun e w' =>
  e = .returned (.func (.func 201) #[] #[.pointer (some ⟨w.heap.size+1,0,none⟩),.pointer (some ⟨w.heap.size,0,none⟩),.pointer (some ⟨w.heap.size+2,0,none⟩)]) ∧
  w'=((w.alloc (.cells #[.string s] 9)).alloc (.cells #[.string { data := #[47] }] 9)).alloc (.cells #[.int .i64 0] 3):=by
  go_enter Tryz.func169,Tryz.ntmps169
  go_wp2
  go_ret
  exact ⟨rfl,rfl⟩
 go_enter Tryz.func133,Tryz.ntmps133
 go_wp2_with (go_at_call 169; refine h1.mono ?_; rintro e w' ⟨rfl,rfl⟩)
 go_ret
 exact ⟨rfl,rfl⟩
set_option maxRecDepth 100000 in
set_option maxHeartbeats 2000000 in
theorem zdv (Bs Bq Bv:Nat) (s:ByteArray) (w:World) (hB:Blk w Bs [.string s] 9) (hQ:Blk w Bq [.string { data := #[47] }] 9) (hV:Blk w Bv [.int .i64 0] 3) (hne:Bq≠Bs∧Bv≠Bs) (hs:s.size≤9223372036854775806) :
 zhB Tryz.prog 201 #[.pointer (some ⟨Bq,0,none⟩),.pointer (some ⟨Bs,0,none⟩),.pointer (some ⟨Bv,0,none⟩)] (fun x:Shs => #[Value.string x.1]) [Bs] [Bs,Bq,Bv] (fun xs=>xs.map Subtype.val=yL s) (fun pre=>pre.map Subtype.val <+: yL s) (yL s).length w:=by
 intro l J Jx W hU hz hJ hJx hY h0
 have b1:Blk W Bs [.string s] 9:=hB.upd hU (by simp)
 have b2:Blk W Bq [.string { data := #[47] }] 9:=hQ.upd hU (by simp)
 have b3:Blk W Bv [.int .i64 0] 3:=hV.upd hU (by simp)
 have HJ:=Lib.hid hJ
 have HY:=Lib.hid hY
 have HJ0:=Lib.hid h0
 clear hJ hY h0 hJx hU hz hB hQ hV
 have HB:Hid (Blk W Bs [.string s] 9∧Blk W Bq [.string { data := #[47] }] 9∧Blk W Bv [.int .i64 0] 3):=Lib.hid ⟨b1,b2,b3⟩
 have cq0:=b2.cell 0 rfl
 clear b1 b2 b3
 obtain ⟨hq1,hq2⟩:=hne
 have HN:=Lib.hid hq1
 have HN2:=Lib.hid hq2
 clear hq1 hq2
 refine callsIn_of_wp Tryz.func201 rfl trivial ?_ rfl
 simp only [Tryz.ntmps201,List.size_toArray,List.length_cons,List.length_nil,Nat.reduceAdd,Nat.reduceSub,Array.replicate_succ,Array.replicate_zero,List.push_toArray,List.append_toArray,List.nil_append,List.cons_append]
 gi_wp2
 clear cq0
 gi_loopg [] s.size (fun g wr => ∃ r:ByteArray,∃ pre:List Shs,g=r.size∧r.size≤s.size∧Hid (yL s=pre.map Subtype.val++yL r)∧Hid (J pre wr)∧Hid (Blk wr Bs [.string r] 9∧Blk wr Bq [.string { data := #[47] }] 9∧Blk wr Bv [.int .i64 0] 3))
 case atStart=>exact ⟨s,[],rfl,Nat.le_refl _,Lib.hid rfl,HJ0,HB⟩
 case round =>
  obtain ⟨r,pre,rfl,hrs,HP,HJp,HBk⟩:=hrel
  clear HB HJ0
  have hr1:r.size≤9223372036854775806:=by omega
  have c1:=HBk.out.1.cell 0 rfl
  have c2:=HBk.out.2.1.cell 0 rfl
  have c3:=HBk.out.2.2.cell 0 rfl
  have hf1:=HBk.out.1.frz 0
  have hlt:Bs<wr.heap.size:=HBk.out.1.lt
  by_cases hc:zM (za r)<r.size
  · have HIX:=Lib.hid (fun w=>zdJ r w hc)
    have HPF:=Lib.hid (Kh r hc)
    generalize zM (za r)=f at *
    have hlen:pre.length<(yL s).length:=by rw [HP.out,HPF.out,List.length_append,List.length_map,List.length_cons]; omega
    have hxf0:(r.extract 0 f).size≤9223372036854775807:=by rw [ByteArray.size_extract]; omega
    obtain ⟨fn,tmps,assign,body,hy,hRd⟩:=HY.out pre ⟨r.extract 0 f,hxf0⟩ wr HJp.out hlen (by intro q hq; simp at hq; subst hq; exact hlt)
    clear hlen
    have HLT:=Lib.hid hlt
    clear hlt
    gi_wp2_with fail
    refine ⟨trivial,(callsIn_wide.2 (HIX.out _)).mono ?_⟩
    rintro e w2 ⟨rfl,rfl⟩
    gi_wp2
    refine hRd.mono ?_
    rintro e W3 (⟨rfl,hJ3,hk3⟩ | ⟨rfl,hJx3⟩)
    · have d1:Blk W3 Bs [.string r] 9:=(hk3.2 Bs (by simp)).trans HBk.out.1
      have d2:Blk W3 Bq [.string { data := #[47] }] 9:=(hk3.2 Bq (by simp)).trans HBk.out.2.1
      have d3:Blk W3 Bv [.int .i64 0] 3:=(hk3.2 Bv (by simp)).trans HBk.out.2.2
      have hx1:=d1.cell 0 rfl
      have hx2:=d2.cell 0 rfl
      have hxf:=d1.frz 0
      have HD:Hid (Blk W3 Bs [.string r] 9∧Blk W3 Bq [.string { data := #[47] }] 9∧Blk W3 Bv [.int .i64 0] 3):=Lib.hid ⟨d1,d2,d3⟩
      have HJ3:=Lib.hid hJ3
      clear d1 d2 d3 hk3 hJ3 c1 c2 c3 hf1 hy HBk
      have hsz:(r.extract (f+1) r.size).size=r.size-(f+1):=by rw [ByteArray.size_extract]; omega
      have HSZ:=Lib.hid hsz
      clear hsz
      gi_wp2
      gi_roundg (r.size-(f+1))
      all_goals first
       | omega
       | (refine ⟨r.extract (f+1) r.size,pre++[⟨r.extract 0 f,hxf0⟩],HSZ.out.symm,by rw [HSZ.out]; omega,Lib.hid (by rw [HP.out,HPF.out]; simp),Lib.hid (HJ.out _ _ _ HJ3.out ?_),Lib.hid ⟨?_,?_,?_⟩⟩
          · exact zcU ((Upd.refl [Bs] _).setCell (.inl (by simp)) _) (fun k hk=>hk) (fun k hk=>by simp at hk; subst hk; exact HD.out.1.cellsOnly)
          · exact HD.out.1.set 0 _
          · exact HD.out.2.1.setFar _ HN.out
          · exact HD.out.2.2.setFar _ HN2.out)
    · gi_wp2
      refine bodyPost_ret (results_none rfl _ _ _) rfl ?_
      exact ⟨⟨_,rfl⟩,.inr ⟨_,by rw [HP.out,HPF.out]; exact ⟨yL (r.extract (f+1) r.size),by simp⟩,hJx3⟩⟩
  · have HIX:=Lib.hid (fun w=>zgT r w hc)
    have HPF:=Lib.hid (za2 r hc)
    have hlen:pre.length<(yL s).length:=by rw [HP.out,HPF.out,List.length_append,List.length_map,List.length_cons]; omega
    obtain ⟨fn,tmps,assign,body,hy,hRd⟩:=HY.out pre ⟨r,by omega⟩ wr HJp.out hlen (by intro q hq; simp at hq; subst hq; exact hlt)
    clear hlen hc
    have HLT:=Lib.hid hlt
    clear hlt
    gi_wp2_with fail
    refine ⟨trivial,(callsIn_wide.2 (HIX.out _)).mono ?_⟩
    rintro e w2 ⟨rfl,rfl⟩
    gi_wp2
    refine hRd.mono ?_
    rintro e W3 (⟨rfl,hJ3,hk3⟩ | ⟨rfl,hJx3⟩)
    · gi_wp2
      go_end0
      exact ⟨⟨_,rfl⟩,.inl ⟨_,by rw [HP.out,HPF.out]; simp,hJ3⟩⟩
    · gi_wp2
      go_end0
      exact ⟨⟨_,rfl⟩,.inr ⟨_,by rw [HP.out,HPF.out]; simp,hJx3⟩⟩
end Go.Proofs.YtfkcdnaghndgfaaGreatDoor
namespace Go.Proofs.YtfkcdnaghndgfaaGreatDoor
open Go.RowKit
theorem zgO {P:Program} {c:Code} {Q:Exit→Act→World→Prop} {a:Act} {w:World} (h : ∀ fr,fr=a→c.wp P Q fr w):c.wp P Q a w:=h a rfl
theorem Upd.putObj' {fp:List Nat} {a w:World} (h:Upd fp a w) {D:Nat} (hD:a.heap.size≤D) (o:Obj):Upd fp a (w.putObj D o):=h.grown (grownBy_putObj' w D o) (fun k e=>by cases e; exact .inr hD)
end Go.Proofs.YtfkcdnaghndgfaaGreatDoor
namespace Go.Proofs.YtfkcdnaghndgfaaGreatDoor
open Go.RowKit Go.Shelf
attribute [local go_sem] Oper.semAt_some
theorem jx (w:World):Calls Tryz.prog 85 #[] w fun e w'=>e = .returned (.string { data := #[46,115,119,105,110,103,108,101] })∧w=w':=by
 go_enter Tryz.func85,Tryz.ntmps85
 go_wp2
 go_ret
 exact ⟨rfl,rfl⟩
theorem zgS (l:List Nat) (hl : ∀ x∈l,x<256):((zd l).toList==[46,115,119,105,110,103,108,101])=decide (l=JM):=by
 rw [xO,zE l hl]; rfl
theorem kw (s:ByteArray) : ∀ p∈zi (za s),∀ x∈p,x<256:=fun p hp x hx=>zV s x (vq _ p hp x hx)
theorem zbF (s x:ByteArray) (h:x∈yL s):za x∈zi (za s):=by
 unfold yL at h
 obtain ⟨p,hp,rfl⟩:=List.mem_map.1 h
 rw [zE p (kw s p hp)]; exact hp
def zhH (pre:List Shs):Prop:=pre.length≤12 ∧ ∀ x∈pre,yd (za x.1)=true
def zg7 (pre:List Shs):Prop:=12<pre.length ∨ ∃ x∈pre,yd (za x.1)=false
theorem zei (s:ByteArray) (h1:s.size≤200) (h2:(zi (za s)).headD []≠JM) (pre:List Shs) (hp:pre.map Subtype.val=yL s) (h:zhH pre):yh (za s)=true:=by
 obtain ⟨h3,h4⟩:=h
 have hl:(zi (za s)).length=pre.length:=by
  have:=congrArg List.length hp
  rw [List.length_map] at this; unfold yL at this; rw [List.length_map] at this; omega
 refine XE (by rw [zc]; exact h1) h2 (by omega) fun p hpm=>?_
 have hm:zd p∈pre.map Subtype.val:=by rw [hp]; unfold yL; exact List.mem_map_of_mem hpm
 obtain ⟨x,hx,hxe⟩:=List.mem_map.1 hm
 have:=h4 x hx
 rwa [hxe,zE p (kw s p hpm)] at this
theorem zgp (s:ByteArray) (pre:List Shs) (hp:pre.map Subtype.val <+: yL s) (h:zg7 pre):yh (za s)=false:=by
 rcases h with h | ⟨x,hx,hb⟩
 · have h1:=hp.length_le
   unfold yL at h1
   rw [List.length_map,List.length_map] at h1
   exact Zx (by omega)
 · exact Yj (zbF s x.1 (hp.subset (List.mem_map_of_mem hx))) hb
theorem qX {fn:Func} {p:Tmp} (h:fn.results = #[.cell p 4]) (tmps:Array Value) (w:World) (g:Nat) (b:Bool) (hp:tmps.getD p undef = .pointer (some ⟨g,0,none⟩)) (hB:Blk w g [.bool b] 4) :
 (results fn tmps).run Tryz.prog w = .ok (.bool b) w:=by
 have hc:=hB.cell 0 rfl
 have hp2:tmps[p]?.getD undef = .pointer (some ⟨g,0,none⟩):=by rw [← hp]; simp
 simp [results,h,go_sem,hp2,hc]
def NrI (s:ByteArray) (w0:World) (bn br:Nat) (pre:List Shs) (W:World):Prop:=Blk W bn [.int .i64 (pre.length:Nat)] 3∧Blk W br [.bool false] 4∧Upd [] w0 W
theorem NrI.own {s:ByteArray} {w0:World} {bn br B:Nat} (hB:w0.heap.size≤B):OwnFrom B (NrI s w0 bn br):=fun p A C row hs hg hr=>by
 obtain ⟨h1,h2,h3⟩:=hs
 exact ⟨vU B bn (fun (_:Unit)=>_) _ () A C row h1 hg hr,vU B br (fun (_:Unit)=>_) _ () A C row h2 hg hr,zau B [] w0 hB () A C row h3 hg hr⟩
theorem NrI.w2 {s:ByteArray} {w0:World} {bn br bs:Nat} (h1:bn≠bs) (h2:br≠bs) (h3:w0.heap.size≤bs) : ∀ p A C,NrI s w0 bn br p A→Own2 [bs] A C→NrI s w0 bn br p C:=fun p A C hs hAC=>by
 obtain ⟨k1,k2,k3⟩:=hs
 exact ⟨k1.upd hAC.1 (by simpa using h1),k2.upd hAC.1 (by simpa using h2),k3.trans hAC.1 (fun k hk=>by simp at hk; subst hk; exact .inr h3)⟩
set_option maxRecDepth 100000 in
set_option maxHeartbeats 4000000 in
theorem Jo (s:ByteArray) (w:World) (hs:s.size≤9223372036854775807):Calls Tryz.prog 84 #[.string s] w fun e w'=>e = .returned (.bool (yh (za s)))∧Upd [] w w':=by
 have HC:=Lib.hid (fun w=>zhT s w hs)
 have hhd : ∀ x∈(zi (za s)).headD [],x<256:=kw s _ (by
  rw [jC (za s)]; simp)
 have HQ:=Lib.hid (zgS _ hhd)
 have HLN:=Lib.hid (zc s)
 clear hhd
 refine (callsIn_wide (n:=9)).1 ?_
 refine callsIn_of_wp_marks Tryz.func84 rfl trivial ?_ rfl
 simp only [Tryz.ntmps84,List.size_toArray,List.length_cons,List.length_nil,Nat.reduceAdd,Nat.reduceSub,Array.replicate_succ,Array.replicate_zero,List.push_toArray,List.append_toArray,List.nil_append,List.cons_append]
 refine wpIn_wide.2 ?_
 let QQ:Exit→Act→World→Prop:=bodyPost Tryz.prog Tryz.f84 (fun _ _=>True)
 by_cases h200:200<s.size
 · have HE:=Lib.hid (Zn (l:=za s) (by rw [HLN.out]; exact h200))
   generalize (zi (za s)).headD []=hd at *
   go_wp2_with fail
   refine (HC.out _).mono ?_
   rintro e w1 ⟨⟨r,b,rfl⟩,hU1⟩
   have hBr:Blk w1 w.heap.size [.bool false] 4:=(Blk.new w [.bool false] 4).upd hU1 (by simp)
   have cr:=hBr.cell 0 rfl
   have fr:=hBr.frz 0
   have HBr:=Lib.hid hBr
   have HUU:=Lib.hid (((Upd.refl [] w).alloc (.cells #[.bool false] 4)).then hU1)
   clear hU1 hBr
   go_wp2
   exact ⟨.bool false,qX rfl _ _ w.heap.size false rfl (HBr.out.set 0 _),by rw [HE.out],HUU.out.setCell (.inr (Nat.le_refl _)) _⟩
 · by_cases hres:(zi (za s)).headD []=JM
   · have HE:=Lib.hid (Xn (l:=za s) hres)
     have t1:=HQ.out.trans (decide_eq_true hres)
     clear hres HQ
     generalize (zi (za s)).headD []=hd at *
     go_wp2_with fail
     refine (HC.out _).mono ?_
     rintro e w1 ⟨⟨r,b,rfl⟩,hU1⟩
     have hBr:Blk w1 w.heap.size [.bool false] 4:=(Blk.new w [.bool false] 4).upd hU1 (by simp)
     have cr:=hBr.cell 0 rfl
     have fr:=hBr.frz 0
     have HBr:=Lib.hid hBr
     have HUU:=Lib.hid (((Upd.refl [] w).alloc (.cells #[.bool false] 4)).then hU1)
     clear hU1 hBr
     go_wp2_with (go_at_call 85; refine (jx _).mono ?_; rintro e w' ⟨rfl,rfl⟩)
     exact ⟨.bool false,qX rfl _ _ w.heap.size false rfl (HBr.out.set 0 _),by rw [HE.out],HUU.out.setCell (.inr (Nat.le_refl _)) _⟩
   · have HN:=Lib.hid hres
     have t1:=HQ.out.trans (decide_eq_false hres)
     have hs2:s.size≤200:=by omega
     have HDN:=Lib.hid (zei s hs2 hres)
     have HNT:=Lib.hid (zgp s)
     clear hres HQ HN
     generalize (zi (za s)).headD []=hd at *
     go_wp2_with fail
     refine (HC.out _).mono ?_
     rintro e w1 ⟨⟨r,b,rfl⟩,hU1⟩
     have HBr:Hid (Blk w1 w.heap.size [.bool false] 4):=Lib.hid ((Blk.new w [.bool false] 4).upd hU1 (by simp))
     have HUU:=Lib.hid (((Upd.refl [] w).alloc (.cells #[.bool false] 4)).then hU1)
     clear hU1
     go_wp2_with (go_at_call 85; refine (jx _).mono ?_; rintro e w' ⟨rfl,rfl⟩)
     have HBn:Hid (Blk (w1.alloc (.cells #[.int .i64 0] 3)) w1.heap.size [.int .i64 (([]:List Shs).length:Nat)] 3):=Lib.hid (Blk.new w1 [.int .i64 0] 3)
     have hA2:Upd [] w1 (w1.alloc (.cells #[.int .i64 0] 3)):=(Upd.refl _ _).alloc _
     have HBr2:=Lib.hid (HBr.out.upd hA2 (by simp))
     have HU2:=Lib.hid (HUU.out.then hA2)
     have hz2:w1.heap.size<(w1.alloc (.cells #[.int .i64 0] 3)).heap.size:=by simp
     clear hA2 HUU
     have hlt0:=HBr.out.lt
     have hle0:w.heap.size≤w1.heap.size:=by omega
     clear HBr
     generalize w1.alloc (.cells #[.int .i64 0] 3)=w2 at *
     obtain ⟨bn,hbn⟩ : ∃ bn,w1.heap.size=bn:=⟨_,rfl⟩
     rw [hbn] at HBn hz2 hlt0 hle0 ⊢
     clear hbn
     go_wp2_with fail
     refine (Kl s w2).mono ?_
     rintro e w3 ⟨rfl,hw3⟩
     have HS3:Hid (Blk w3 w2.heap.size [.string s] 9∧Blk w3 (w2.heap.size+1) [.string { data := #[47] }] 9∧Blk w3 (w2.heap.size+2) [.int .i64 0] 3):=Lib.hid (by
      rw [hw3]
      refine ⟨((Blk.new w2 [.string s] 9).alloc _).alloc _,?_,?_⟩
      · have:=(Blk.new (w2.alloc (.cells #[.string s] 9)) [.string { data := #[47] }] 9).alloc (.cells #[.int .i64 0] 3)
        rw [World.size_alloc] at this; exact this
      · have:=Blk.new ((w2.alloc (.cells #[.string s] 9)).alloc (.cells #[.string { data := #[47] }] 9)) [.int .i64 0] 3
        rw [World.size_alloc,World.size_alloc] at this; exact this)
     have hA3:Upd [] w2 w3:=by rw [hw3]; exact (((Upd.refl _ _).alloc _).alloc _).alloc _
     have hz3:w3.heap.size=w2.heap.size+3:=by rw [hw3]; simp
     have HBn3:=Lib.hid (HBn.out.upd hA3 (by simp))
     have HBr3:=Lib.hid (HBr2.out.upd hA3 (by simp))
     have HU3:=Lib.hid (HU2.out.then hA3)
     clear hw3 hA3 HBn HBr2 HU2
     obtain ⟨bs,hbs⟩ : ∃ bs,w2.heap.size=bs:=⟨_,rfl⟩
     rw [hbs] at HS3 hz3 hz2 ⊢
     clear hbs
     have hw30:w.heap.size≤w3.heap.size:=HU3.out.size
     go_wp2_with fail
     refine zgO ?_
     intro fr hfr
     refine Code.wp_mono (Q:=fun e a' W=>(e = .normal∨e = .ret) ∧ ∃ D pre,a' = { fr with defers := { target := .collected D,args := #[] }::fr.defers }∧w3.heap.size≤D∧W.heap[D]? =some (.deferred (some []))∧Blk W w.heap.size [.bool false] 4∧Upd [] w W ∧
      Hid ((e = .normal∧pre.map Subtype.val=yL s∧zhH pre)∨(e = .ret∧pre.map Subtype.val <+: yL s∧zg7 pre))) ?cont ((wpIn_wide (n:=9)).1 ?main)
     case main =>
      refine ziH (gf:=201) (lb := #[.pointer (some ⟨bs+1,0,none⟩),.pointer (some ⟨bs,0,none⟩),.pointer (some ⟨bs+2,0,none⟩)]) (by rw [hfr]; rfl) (enters_of Tryz.func201 (by kernel_rfl) rfl)
       (zdv bs (bs+1) (bs+2) s w3 HS3.out.1 HS3.out.2.1 HS3.out.2.2 ⟨by omega,by omega⟩ (by omega)) (by intro k hk; simp at hk; omega) (fun _=>rfl)
       (fun pre W=>NrI s w bn w.heap.size pre W∧Hid (zhH pre))
       (fun c pre W=>(c = .ret∧Hid (zg7 pre))∧NrI s w bn w.heap.size pre W)
       ?act
       (OwnFrom.and (NrI.own hw30) (ownFrom_pure _ _)) (fun c=>OwnFrom.and (ownFrom_pure _ _) (NrI.own hw30))
       ?iw ?ixw ⟨⟨HBn3.out,HBr3.out,HU3.out⟩,Lib.hid ⟨by simp,by simp⟩⟩ ?assign ?body ?done ?stop
      case assign =>
       intro L1 x W K hK
       subst hfr
       gi_wp2
       exact hK
      case iw =>
       rintro s' A C ⟨h1,h2⟩ hAC
       exact ⟨NrI.w2 (by omega) (by omega) (by omega) _ A C h1 hAC,h2⟩
      case ixw =>
       rintro c s' A C ⟨h1,h2⟩ hAC
       exact ⟨h1,NrI.w2 (by omega) (by omega) (by omega) _ A C h2 hAC⟩
      case body =>
       rintro L1 pre x W hsz hfp ⟨⟨hn,hr,hU⟩,hA⟩ hlt
       subst hfr
       have n0:=hn.cell 0 rfl
       have nf:=hn.frz 0
       have r0:=hr.cell 0 rfl
       have rf:=hr.frz 0
       have HNb:=Lib.hid hn
       have HRb:=Lib.hid hr
       have HUb:=Lib.hid hU
       have hp0:(pre.length:Int)≤12:=by have:=hA.out.1; omega
       have HPT:=Lib.hid (fun w=>zfU x.1 w x.2)
       clear hn hr hU hlt hfp
       have hbw:w.heap.size≠bn:=by omega
       have r1:(W.setCell ⟨bn,0,none⟩ (.int .i64 ((pre.length:Int)+1))).cell? ⟨w.heap.size,0,none⟩=some (.bool false):=(HRb.out.setFar (a:=⟨bn,0,none⟩) _ hbw).cell 0 rfl
       have rf1:(W.setCell ⟨bn,0,none⟩ (.int .i64 ((pre.length:Int)+1))).frozen? ⟨w.heap.size,0,none⟩=false:=(HRb.out.setFar (a:=⟨bn,0,none⟩) _ hbw).frz 0
       have hn1:Blk (W.setCell ⟨bn,0,none⟩ (.int .i64 ((pre.length:Int)+1))) bn [.int .i64 ((pre++[x]).length:Nat)] 3:=by
        have:=HNb.out.set 0 (.int .i64 ((pre.length:Int)+1))
        rw [List.length_append]; exact this
       have hr1:=HRb.out.setFar (a:=⟨bn,0,none⟩) (.int .i64 ((pre.length:Int)+1)) hbw
       have hU1:Upd [] w (W.setCell ⟨bn,0,none⟩ (.int .i64 ((pre.length:Int)+1))):=HUb.out.setCell (.inr (by simp; omega)) _
       have hUx:Upd [bn] W (W.setCell ⟨bn,0,none⟩ (.int .i64 ((pre.length:Int)+1))):=(Upd.refl _ _).setCell (.inl (by simp)) _
       have hK1:KeepsFrom w3.heap.size W (W.setCell ⟨bn,0,none⟩ (.int .i64 ((pre.length:Int)+1))):=(hUx.others (fun k hk=>by simp at hk; subst hk; exact HNb.out.cellsOnly)).from _
       have hKp:Keep [bs,bs+1,bs+2] W (W.setCell ⟨bn,0,none⟩ (.int .i64 ((pre.length:Int)+1))):=Keep.of_upd hUx (fun k hk=>by simp at hk; constructor<;>(try simp)<;>omega)
       have HN1:=Lib.hid hn1
       have HR1:=Lib.hid hr1
       have HU1:=Lib.hid hU1
       have HK1:=Lib.hid hK1
       have HKP:=Lib.hid hKp
       have hlt1:bn<(W.setCell ⟨bn,0,none⟩ (.int .i64 ((pre.length:Int)+1))).heap.size:=hn1.lt
       clear hn1 hr1 hU1 hUx hK1 hKp
       cases hpo:yd (za x.1) with
       | true =>
         rw [hpo] at HPT
         by_cases h12:pre.length+1≤12
         · have h12':(pre.length:Int)+1≤12:=by omega
           have HAN:Hid (zhH (pre++[x])):=Lib.hid ⟨by simp; omega,fun y hy=>by
            rcases List.mem_append.1 hy with hy | hy
            · exact hA.out.2 y hy
            · simp at hy; subst hy; exact hpo⟩
           clear hpo h12
           gi_wp2_with fail
           refine ⟨trivial,(CallsIn.inRound L1 (callsIn_wide.2 (HPT.out _))).mono ?_⟩
           rintro e W2 ⟨rfl,rfl⟩
           gi_wp2
           exact ⟨HK1.out,HKP.out,⟨HN1.out,HR1.out,HU1.out⟩,HAN⟩
         · have h12':12<(pre.length:Int)+1:=by omega
           have HAN:Hid (zg7 (pre++[x])):=Lib.hid (.inl (by simp; omega))
           clear hpo h12
           gi_wp2_with fail
           refine ⟨trivial,(CallsIn.inRound L1 (callsIn_wide.2 (HPT.out _))).mono ?_⟩
           rintro e W2 ⟨rfl,rfl⟩
           gi_wp2
           have hUy:Upd [w.heap.size] (W.setCell ⟨bn,0,none⟩ (.int .i64 ((pre.length:Int)+1))) ((W.setCell ⟨bn,0,none⟩ (.int .i64 ((pre.length:Int)+1))).setCell ⟨w.heap.size,0,none⟩ (.bool false)):=(Upd.refl _ _).setCell (.inl (by simp)) _
           refine ⟨HK1.out.trans ((hUy.others (fun k hk=>by simp at hk; subst hk; exact HR1.out.cellsOnly)).from _),⟨rfl,HAN⟩,HN1.out.setFar _ (by simp; omega),HR1.out.set 0 _,HU1.out.setCell (.inr (Nat.le_refl _)) _⟩
       | false =>
         rw [hpo] at HPT
         have HAN:Hid (zg7 (pre++[x])):=Lib.hid (.inr ⟨x,by simp,hpo⟩)
         clear hpo
         gi_wp2_with fail
         refine ⟨trivial,(CallsIn.inRound L1 (callsIn_wide.2 (HPT.out _))).mono ?_⟩
         rintro e W2 ⟨rfl,rfl⟩
         gi_wp2
         have hUy:Upd [w.heap.size] (W.setCell ⟨bn,0,none⟩ (.int .i64 ((pre.length:Int)+1))) ((W.setCell ⟨bn,0,none⟩ (.int .i64 ((pre.length:Int)+1))).setCell ⟨w.heap.size,0,none⟩ (.bool false)):=(Upd.refl _ _).setCell (.inl (by simp)) _
         refine ⟨HK1.out.trans ((hUy.others (fun k hk=>by simp at hk; subst hk; exact HR1.out.cellsOnly)).from _),⟨rfl,HAN⟩,HN1.out.setFar _ (by simp; omega),HR1.out.set 0 _,HU1.out.setCell (.inr (Nat.le_refl _)) _⟩
      case done =>
       rintro D xs W hD hxs ⟨⟨hn,hr,hU⟩,hA⟩ hK
       exact ⟨.inl rfl,D,_,rfl,hD,hK,hr,hU,Lib.hid (.inl ⟨rfl,hxs,hA.out⟩)⟩
      case stop =>
       rintro D c pre W hD hpre ⟨⟨rfl,hA⟩,hn,hr,hU⟩ hK
       refine wpIn_ret ?_
       exact ⟨.inr rfl,D,pre,rfl,hD,hK,hr,hU,Lib.hid (.inr ⟨rfl,hpre,hA.out⟩)⟩
     case cont =>
      rintro e a' wz ⟨he,D,pre,rfl,hD,hDk,hr,hU,HP⟩
      subst hfr
      have HR:=Lib.hid hr
      have HU:=Lib.hid hU
      have r0:=hr.cell 0 rfl
      have rf:=hr.frz 0
      have HDk:=Lib.hid hDk
      have hwD:w.heap.size≤D:=by omega
      have hDlt:D<wz.heap.size:=(Array.getElem?_eq_some_iff.1 hDk).1
      clear hr hU hDk
      rcases HP.out with ⟨rfl,hpp,hA⟩ | ⟨rfl,hpp,hA⟩
      · have HE:=Lib.hid (HDN.out pre hpp hA)
        clear HP hpp hA he
        go_wp2
        have hk9:(wz.setCell ⟨w.heap.size,0,none⟩ (.bool true)).heap[D]? =some (.deferred (some [])):=(Below.heap_setCell _ _ _ _ (by simp; omega)).trans HDk.out
        refine ⟨by simp,.inl ⟨_,_,rfl,run_takeDeferred hk9,?_⟩⟩
        have hB9:Blk ((wz.setCell ⟨w.heap.size,0,none⟩ (.bool true)).putObj D (.deferred none)) w.heap.size [.bool true] 4:=(World.putObj_heap_other (by omega)).trans (HR.out.set 0 _)
        exact ⟨.bool true,qX rfl _ _ w.heap.size true rfl hB9,by rw [HE.out],(HU.out.setCell (.inr (Nat.le_refl _)) _).putObj' hwD _⟩
      · have HE:=Lib.hid (HNT.out pre hpp hA)
        clear HP hpp hA he
        go_wp2
        refine ⟨by simp,.inl ⟨_,_,rfl,run_takeDeferred HDk.out,?_⟩⟩
        have hB9:Blk (wz.putObj D (.deferred none)) w.heap.size [.bool false] 4:=(World.putObj_heap_other (by omega)).trans HR.out
        exact ⟨.bool false,qX rfl _ _ w.heap.size false rfl hB9,by rw [HE.out],HU.out.putObj' hwD _⟩
end Go.Proofs.YtfkcdnaghndgfaaGreatDoor
