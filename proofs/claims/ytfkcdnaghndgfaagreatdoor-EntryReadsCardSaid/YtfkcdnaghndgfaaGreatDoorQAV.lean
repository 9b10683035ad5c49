/- Packages local and swingleref19: Tail: plain, and walks. -/
import Derived.Test.YtfkcdnaghndgfaaGreatDoorQAU
import Derived.Test.YtfkcdnaghndgfaaGreatDoorQAS
set_option linter.unusedVariables false
set_option linter.unusedSimpArgs false
set_option linter.unusedSectionVars false
namespace Go.Proofs.YtfkcdnaghndgfaaGreatDoor
open Go.RowKit
def zcX (t:Nat×Nat×Nat×Nat×Bool):Value := .tuple #[.int .u32 (t.1:Nat),.int .i64 (t.2.1:Nat),.int .i64 (t.2.2.1:Nat),.int .i64 (t.2.2.2.1:Nat),.bool t.2.2.2.2]
theorem zS {fn:Func} {t u v x y:Tmp} (h:fn.results = #[.tmp t,.tmp u,.tmp v,.tmp x,.tmp y]) (tmps:Array Value) (P:Program) (w:World) :
 (results fn tmps).run P w = .ok (.tuple #[tmps.getD t undef,tmps.getD u undef,tmps.getD v undef,tmps.getD x undef,tmps.getD y undef]) w:=by
 simp [results,h]
theorem KM (x:ByteArray) (i:Nat):gN x i 4<4294967296:=zgw x i 4
set_option maxRecDepth 100000 in
set_option maxHeartbeats 4000000 in
theorem zdN (s:ByteArray) (a:Int) (w:World) (hs:s.size≤1000000):Calls Tryz.prog 32 #[.string s,.int .i64 a] w fun e w'=>e = .returned (zcX (yY s a))∧Upd [] w w':=by
 by_cases ha:a<0∨(s.size:Int)<a
 · have HV:Hid (yY s a=(0,0,0,0,false)):=Lib.hid (if_pos ha)
   rcases ha with ha | ha
   · go_enter Tryz.func32,Tryz.ntmps32
     go_wp2
     (try simp only [Exit.inBlock,Exit.then]); refine bodyPost_ret (zS rfl _ _ _) rfl ⟨?_,Upd.refl _ _⟩
     rw [HV.out]; rfl
   · have ha0 : ¬ a<0:=by omega
     go_enter Tryz.func32,Tryz.ntmps32
     go_wp2
     (try simp only [Exit.inBlock,Exit.then]); refine bodyPost_ret (zS rfl _ _ _) rfl ⟨?_,Upd.refl _ _⟩
     rw [HV.out]; rfl
 · obtain ⟨i,rfl⟩ : ∃ i:Nat,a=i:=⟨a.toNat,by omega⟩
   have hi0:(0:Int)≤(i:Int):=by omega
   have hi1:(i:Int)≤(s.size:Int):=by omega
   obtain ⟨x,hx⟩ : ∃ x,x=s.extract i s.size:=⟨_,rfl⟩
   have hxs:x.size=s.size-i:=by rw [hx,ByteArray.size_extract]; omega
   have HV:Hid (yY s i=xV x):=Lib.hid (by unfold yY; rw [if_neg ha,hx]; rfl)
   have HXD:=Lib.hid hx
   clear ha hx
   by_cases h12:x.size<12
   · have HV2:Hid (xV x=(0,0,0,0,false)):=Lib.hid (if_pos (.inl h12))
     have hz:(s.size:Int)-(i:Int)<12:=by omega
     go_enter Tryz.func32,Tryz.ntmps32
     go_wp2
     (try simp only [Exit.inBlock,Exit.then]); refine bodyPost_ret (zS rfl _ _ _) rfl ⟨?_,Upd.refl _ _⟩
     rw [HV.out,HV2.out]; rfl
   · have hz : ¬ (s.size:Int)-(i:Int)<12:=by omega
     have hM2:(((s.extract i s.size).extract 0 4).toList==[80,75,7,8])=decide (gN x 0 4=134695760):=by rw [← HXD.out]; exact zgB x (by omega) [80,75,7,8] 134695760 rfl (by decide)
     have hxm:x.size≤1000000:=by omega
     have hx4:(4:Int)≤((s.extract i s.size).size:Int):=by rw [← HXD.out]; omega
     have b0:=KM x 0
     have b4:=KM x 4
     have b8:=KM x 8
     have b12:=KM x 12
     have HA0:=Lib.hid (fun w h=>Qb x 0 4 w h hxm (by omega))
     have HA4:=Lib.hid (fun w h=>Qb x 4 4 w h hxm (by omega))
     have HA8:=Lib.hid (fun w h=>Qb x 8 4 w h hxm (by omega))
     have HA12:=Lib.hid (fun w h=>Qb x 12 4 w h hxm (by omega))
     by_cases hb:gN x 0 4=134695760
     · rw [decide_eq_true hb] at hM2
       by_cases h16:x.size<16
       · have HV2:Hid (xV x=(0,0,0,0,false)):=Lib.hid (if_pos (.inr ⟨hb,h16⟩))
         have hz2:((s.extract i s.size).size:Int)<16:=by rw [← HXD.out]; omega
         clear hb
         go_enter Tryz.func32,Tryz.ntmps32
         go_wp2
         (try simp only [Exit.inBlock,Exit.then]); refine bodyPost_ret (zS rfl _ _ _) rfl ⟨?_,Upd.refl _ _⟩
         rw [HV.out,HV2.out]; rfl
       · have HV2:Hid (xV x=(gN x 4 4,gN x 8 4,gN x 12 4,16,true)):=Lib.hid (by unfold xV; rw [if_neg (by omega),if_pos hb])
         have hz2 : ¬ ((s.extract i s.size).size:Int)<16:=by rw [← HXD.out]; omega
         clear hb
         generalize gN x 4 4=va at *
         generalize gN x 8 4=vb at *
         generalize gN x 12 4=vc at *
         go_enter Tryz.func32,Tryz.ntmps32
         go_wp2_with fail
         rw [← HXD.out]
         refine (HA4.out _ (by omega)).mono ?_
         rintro e w1 ⟨rfl,hU1⟩
         go_wp2_with fail
         try rw [← HXD.out]
         refine (HA8.out _ (by omega)).mono ?_
         rintro e w2 ⟨rfl,hU2⟩
         go_wp2_with fail
         try rw [← HXD.out]
         refine (HA12.out _ (by omega)).mono ?_
         rintro e w3 ⟨rfl,hU3⟩
         go_wp2
         (try simp only [Exit.inBlock,Exit.then]); refine bodyPost_ret (zS rfl _ _ _) rfl ⟨?_,(hU1.then hU2).then hU3⟩
         rw [HV.out,HV2.out]; rfl
     · rw [decide_eq_false hb] at hM2
       have HV2:Hid (xV x=(gN x 0 4,gN x 4 4,gN x 8 4,12,true)):=Lib.hid (by unfold xV; rw [if_neg (by omega),if_neg hb])
       have hz2 : ¬ ((s.extract i s.size).size:Int)<12:=by rw [← HXD.out]; omega
       clear hb
       generalize gN x 0 4=va at *
       generalize gN x 4 4=vb at *
       generalize gN x 8 4=vc at *
       go_enter Tryz.func32,Tryz.ntmps32
       go_wp2_with fail
       rw [← HXD.out]
       refine (HA0.out _ (by omega)).mono ?_
       rintro e w1 ⟨rfl,hU1⟩
       go_wp2_with fail
       try rw [← HXD.out]
       refine (HA4.out _ (by omega)).mono ?_
       rintro e w2 ⟨rfl,hU2⟩
       go_wp2_with fail
       try rw [← HXD.out]
       refine (HA8.out _ (by omega)).mono ?_
       rintro e w3 ⟨rfl,hU3⟩
       go_wp2
       (try simp only [Exit.inBlock,Exit.then]); refine bodyPost_ret (zS rfl _ _ _) rfl ⟨?_,(hU1.then hU2).then hU3⟩
       rw [HV.out,HV2.out]; rfl
def zc7 (r:RS):Nat×Nat×Nat×RS :=
 let a:=r.num 4
 let b:=if a.1=134695760 then a.2.num 4 else a
 let c:=b.2.num 4
 let d:=c.2.num 4
 (b.1,c.1,d.1,d.2)
theorem zgR (x:ByteArray):if x.size<12∨(gN x 0 4=134695760∧x.size<16) then (zc7 ⟨x,0,false⟩).2.2.2.bad=true
 else zc7 ⟨x,0,false⟩=((xV x).1,(xV x).2.1,(xV x).2.2.1,⟨x,(xV x).2.2.2.1,false⟩)∧(xV x).2.2.2.2=true:=by
 have nbad : ∀ r:RS,r.bad=true → ∀ k,(r.num k).2.bad=true:=fun r h k=>by unfold RS.num; exact RS.text_isbad h k
 have nshort : ∀ p k,p≤x.size→x.size<p+k→((⟨x,p,false⟩:RS).num k).2.bad=true:=fun p k h1 h2=>by unfold RS.num; exact RS.text_not ⟨x,p,false⟩ k h2 h1
 have nz : ∀ k,x.size<k→((⟨x,0,false⟩:RS).num k).1=0:=fun k h=>by unfold RS.num; rw [RS.text_short k (by omega)]; rfl
 unfold zc7 xV
 dsimp only
 by_cases h4:x.size<4
 · rw [if_pos (.inl (by omega)),nz 4 h4,if_neg (by decide)]
   exact nbad _ (nbad _ (nshort 0 4 (by omega) (by omega)) 4) 4
 · rw [yv 4 (by omega:0+4≤x.size)]
   dsimp only
   by_cases hb:gN x 0 4=134695760
   · rw [if_pos hb]
     by_cases h8:x.size<8
     · rw [if_pos (.inl (by omega))]
       exact nbad _ (nbad _ (nshort (0+4) 4 (by omega) (by omega)) 4) 4
     · rw [yv 4 (by omega:0+4+4≤x.size)]
       dsimp only
       by_cases h12:x.size<12
       · rw [if_pos (.inl h12)]
         exact nbad _ (nshort (0+4+4) 4 (by omega) (by omega)) 4
       · rw [yv 4 (by omega:0+4+4+4≤x.size)]
         dsimp only
         by_cases h16:x.size<16
         · rw [if_pos (.inr ⟨hb,h16⟩)]
           exact nshort (0+4+4+4) 4 (by omega) (by omega)
         · have hn : ¬ (x.size<12∨gN x 0 4=134695760∧x.size<16):=by omega
           rw [if_neg hn,yv 4 (by omega:0+4+4+4+4≤x.size),if_neg hn,if_pos hb]
           exact ⟨rfl,rfl⟩
   · rw [if_neg hb]
     dsimp only
     by_cases h8:x.size<8
     · rw [if_pos (.inl (by omega))]
       exact nbad _ (nshort (0+4) 4 (by omega) (by omega)) 4
     · rw [yv 4 (by omega:0+4+4≤x.size)]
       dsimp only
       by_cases h12:x.size<12
       · rw [if_pos (.inl h12)]
         exact nshort (0+4+4) 4 (by omega) (by omega)
       · have hn : ¬ (x.size<12∨gN x 0 4=134695760∧x.size<16):=by omega
         rw [if_neg hn,yv 4 (by omega:0+4+4+4≤x.size),if_neg hn,if_neg hb]
         exact ⟨rfl,rfl⟩
set_option maxRecDepth 100000 in
set_option maxHeartbeats 4000000 in
theorem zgt (s:ByteArray) (a:Int) (w:World) (hs:s.size≤1000000):Calls Tryz.prog 62 #[.string s,.int .i64 a] w fun e w'=>e = .returned (zcX (yY s a))∧Upd [] w w':=by
 by_cases ha:a<0∨(s.size:Int)<a
 · have HV:Hid (yY s a=(0,0,0,0,false)):=Lib.hid (if_pos ha)
   rcases ha with ha | ha
   · go_enter Tryz.func62,Tryz.ntmps62
     go_wp2
     (try simp only [Exit.inBlock,Exit.then]); refine bodyPost_ret (zS rfl _ _ _) rfl ⟨?_,Upd.refl _ _⟩
     rw [HV.out]; rfl
   · have ha0 : ¬ a<0:=by omega
     go_enter Tryz.func62,Tryz.ntmps62
     go_wp2
     (try simp only [Exit.inBlock,Exit.then]); refine bodyPost_ret (zS rfl _ _ _) rfl ⟨?_,Upd.refl _ _⟩
     rw [HV.out]; rfl
 · obtain ⟨i,rfl⟩ : ∃ i:Nat,a=i:=⟨a.toNat,by omega⟩
   have hi0:(0:Int)≤(i:Int):=by omega
   have hi1:(i:Int)≤(s.size:Int):=by omega
   obtain ⟨x,hx⟩ : ∃ x,x=s.extract i s.size:=⟨_,rfl⟩
   have hxs:x.size≤1000000:=by rw [hx,ByteArray.size_extract]; omega
   have HV:Hid (yY s i=xV x):=Lib.hid (by unfold yY; rw [if_neg ha,hx]; rfl)
   have HXD:=Lib.hid hx
   have HEQ:=Lib.hid (zgR x)
   clear ha hx
   have HX0:Hid (xV x=if x.size<12∨(gN x 0 4=134695760∧x.size<16) then (0,0,0,0,false) else xV x):=Lib.hid (by
    by_cases h:x.size<12∨(gN x 0 4=134695760∧x.size<16)
    · rw [if_pos h]; unfold xV; rw [if_pos h]
    · rw [if_neg h])
   unfold zc7 at HEQ
   obtain ⟨va,ra,ha1⟩ : ∃ v r',(⟨x,0,false⟩:RS).num 4=(v,r'):=⟨_,_,rfl⟩
   have oa:ra.Ok:=by have:=RS.num_ok (show (⟨x,0,false⟩:RS).Ok from Nat.zero_le _) 4; rw [ha1] at this; exact this
   have sa:ra.s.size≤1000000:=by have:=RS.num_s (⟨x,0,false⟩:RS) 4; rw [ha1] at this; dsimp only at this; rw [this]; exact hxs
   have ba:va<4294967296:=by have:=RS.num_lt (⟨x,0,false⟩:RS) 4; rw [ha1] at this; exact this
   rw [ha1] at HEQ
   dsimp only at HEQ
   have Ha1:=Lib.hid ha1
   clear ha1
   by_cases hb:va=134695760
   · subst hb
     rw [if_pos rfl] at HEQ
     obtain ⟨vb,rb,hb1⟩ : ∃ v r',ra.num 4=(v,r'):=⟨_,_,rfl⟩
     have ob:rb.Ok:=by have:=RS.num_ok oa 4; rw [hb1] at this; exact this
     have sb:rb.s.size≤1000000:=by have:=RS.num_s ra 4; rw [hb1] at this; dsimp only at this; rw [this]; exact sa
     have bb:vb<4294967296:=by have:=RS.num_lt ra 4; rw [hb1] at this; exact this
     rw [hb1] at HEQ
     dsimp only at HEQ
     have Hb1:=Lib.hid hb1
     clear hb1
     obtain ⟨vc,rc,hc1⟩ : ∃ v r',rb.num 4=(v,r'):=⟨_,_,rfl⟩
     have oc:rc.Ok:=by have:=RS.num_ok ob 4; rw [hc1] at this; exact this
     have sc:rc.s.size≤1000000:=by have:=RS.num_s rb 4; rw [hc1] at this; dsimp only at this; rw [this]; exact sb
     have bc:vc<4294967296:=by have:=RS.num_lt rb 4; rw [hc1] at this; exact this
     rw [hc1] at HEQ
     dsimp only at HEQ
     have Hc1:=Lib.hid hc1
     clear hc1
     obtain ⟨vd,rd,hd1⟩ : ∃ v r',rc.num 4=(v,r'):=⟨_,_,rfl⟩
     have od:rd.Ok:=by have:=RS.num_ok oc 4; rw [hd1] at this; exact this
     have sd:rd.s.size≤1000000:=by have:=RS.num_s rc 4; rw [hd1] at this; dsimp only at this; rw [this]; exact sc
     have bd:vd<4294967296:=by have:=RS.num_lt rc 4; rw [hd1] at this; exact this
     rw [hd1] at HEQ
     dsimp only at HEQ
     have Hd1:=Lib.hid hd1
     clear hd1
     by_cases hcond:x.size<12∨(gN x 0 4=134695760∧x.size<16)
     · rw [if_pos hcond] at HEQ HX0
       clear hcond
       go_enter Tryz.func62,Tryz.ntmps62
       go_wp2_with fail
       rw [← HXD.out]
       refine (jS x _).mono ?_
       rintro e y0 ⟨rfl,hR0,hv0⟩
       have HG0:=Lib.hid (Nat.le_refl w.heap.size)
       generalize hb0:w.heap.size=b0 at *
       have HG:Hid (w.heap.size≤b0):=Lib.hid (by omega)
       clear HG0 hb0
       have HR0:=Lib.hid hR0
       have HU0:=Lib.hid hv0
       clear hR0 hv0
       go_wp2_with fail
       refine (yi b0 4 134695760 ⟨x,0,false⟩ ra _ Ha1.out HR0.out hxs (Nat.zero_le _) (by omega)).mono ?_
       rintro e y1 ⟨rfl,hR1,hv1⟩
       have HR1:=Lib.hid hR1
       have HU1:=Lib.hid (HU0.out.trans hv1 (fun k hk => .inr (by simp at hk; have:=HG.out; omega)))
       clear hR1 hv1 HR0 HU0
       go_wp2_with fail
       refine (yi b0 4 vb ra rb _ Hb1.out HR1.out sa oa (by omega)).mono ?_
       rintro e y2 ⟨rfl,hR2,hv2⟩
       have HR2:=Lib.hid hR2
       have HU2:=Lib.hid (HU1.out.trans hv2 (fun k hk => .inr (by simp at hk; have:=HG.out; omega)))
       clear hR2 hv2 HR1 HU1
       go_wp2_with fail
       refine (yi b0 4 vc rb rc _ Hc1.out HR2.out sb ob (by omega)).mono ?_
       rintro e y3 ⟨rfl,hR3,hv3⟩
       have HR3:=Lib.hid hR3
       have HU3:=Lib.hid (HU2.out.trans hv3 (fun k hk => .inr (by simp at hk; have:=HG.out; omega)))
       clear hR3 hv3 HR2 HU2
       go_wp2_with fail
       refine (yi b0 4 vd rc rd _ Hd1.out HR3.out sc oc (by omega)).mono ?_
       rintro e y4 ⟨rfl,hR4,hv4⟩
       have HR4:=Lib.hid hR4
       have HU4:=Lib.hid (HU3.out.trans hv4 (fun k hk => .inr (by simp at hk; have:=HG.out; omega)))
       clear hR4 hv4 HR3 HU3
       go_wp2_with fail
       refine (qS b0 _ _ HR4.out).mono ?_
       rintro e y9 ⟨rfl,rfl⟩
       rw [HEQ.out]
       go_wp2
       (try simp only [Exit.inBlock,Exit.then]); refine bodyPost_ret (zS rfl _ _ _) rfl ⟨?_,HU4.out⟩
       rw [HV.out,HX0.out]; rfl
     · rw [if_neg hcond] at HEQ
       clear hcond HX0
       have HE:=HEQ.out
       clear HEQ
       generalize xV x=TX at *
       obtain ⟨t1,t2,t3,t4,t5⟩:=TX
       dsimp only at HE
       obtain ⟨he,rfl⟩:=HE
       simp only [Prod.mk.injEq] at he
       obtain ⟨e1,e2,e3,e4⟩:=he
       subst e1 e2 e3
       have HB4:Hid (rd.bad=false):=Lib.hid (by rw [e4])
       have HP4:Hid (rd.p=t4):=Lib.hid (by rw [e4])
       clear e4
       go_enter Tryz.func62,Tryz.ntmps62
       go_wp2_with fail
       rw [← HXD.out]
       refine (jS x _).mono ?_
       rintro e y0 ⟨rfl,hR0,hv0⟩
       have HG0:=Lib.hid (Nat.le_refl w.heap.size)
       generalize hb0:w.heap.size=b0 at *
       have HG:Hid (w.heap.size≤b0):=Lib.hid (by omega)
       clear HG0 hb0
       have HR0:=Lib.hid hR0
       have HU0:=Lib.hid hv0
       clear hR0 hv0
       go_wp2_with fail
       refine (yi b0 4 134695760 ⟨x,0,false⟩ ra _ Ha1.out HR0.out hxs (Nat.zero_le _) (by omega)).mono ?_
       rintro e y1 ⟨rfl,hR1,hv1⟩
       have HR1:=Lib.hid hR1
       have HU1:=Lib.hid (HU0.out.trans hv1 (fun k hk => .inr (by simp at hk; have:=HG.out; omega)))
       clear hR1 hv1 HR0 HU0
       go_wp2_with fail
       refine (yi b0 4 vb ra rb _ Hb1.out HR1.out sa oa (by omega)).mono ?_
       rintro e y2 ⟨rfl,hR2,hv2⟩
       have HR2:=Lib.hid hR2
       have HU2:=Lib.hid (HU1.out.trans hv2 (fun k hk => .inr (by simp at hk; have:=HG.out; omega)))
       clear hR2 hv2 HR1 HU1
       go_wp2_with fail
       refine (yi b0 4 vc rb rc _ Hc1.out HR2.out sb ob (by omega)).mono ?_
       rintro e y3 ⟨rfl,hR3,hv3⟩
       have HR3:=Lib.hid hR3
       have HU3:=Lib.hid (HU2.out.trans hv3 (fun k hk => .inr (by simp at hk; have:=HG.out; omega)))
       clear hR3 hv3 HR2 HU2
       go_wp2_with fail
       refine (yi b0 4 vd rc rd _ Hd1.out HR3.out sc oc (by omega)).mono ?_
       rintro e y4 ⟨rfl,hR4,hv4⟩
       have HR4:=Lib.hid hR4
       have HU4:=Lib.hid (HU3.out.trans hv4 (fun k hk => .inr (by simp at hk; have:=HG.out; omega)))
       clear hR4 hv4 HR3 HU3
       go_wp2_with fail
       refine (qS b0 _ _ HR4.out).mono ?_
       rintro e y9 ⟨rfl,rfl⟩
       rw [HB4.out]
       go_wp2_with fail
       refine (ZZ b0 _ _ HR4.out).mono ?_
       rintro e y10 ⟨rfl,rfl⟩
       rw [HP4.out]
       go_wp2
       (try simp only [Exit.inBlock,Exit.then]); refine bodyPost_ret (zS rfl _ _ _) rfl ⟨?_,HU4.out⟩
       rw [HV.out]; rfl
   · rw [if_neg hb] at HEQ
     dsimp only at HEQ
     have tb:((va:Int)==134695760)=false:=by rw [beq_eq_false_iff_ne]; omega
     obtain ⟨vc,rc,hc1⟩ : ∃ v r',ra.num 4=(v,r'):=⟨_,_,rfl⟩
     have oc:rc.Ok:=by have:=RS.num_ok oa 4; rw [hc1] at this; exact this
     have sc:rc.s.size≤1000000:=by have:=RS.num_s ra 4; rw [hc1] at this; dsimp only at this; rw [this]; exact sa
     have bc:vc<4294967296:=by have:=RS.num_lt ra 4; rw [hc1] at this; exact this
     rw [hc1] at HEQ
     dsimp only at HEQ
     have Hc1:=Lib.hid hc1
     clear hc1
     obtain ⟨vd,rd,hd1⟩ : ∃ v r',rc.num 4=(v,r'):=⟨_,_,rfl⟩
     have od:rd.Ok:=by have:=RS.num_ok oc 4; rw [hd1] at this; exact this
     have sd:rd.s.size≤1000000:=by have:=RS.num_s rc 4; rw [hd1] at this; dsimp only at this; rw [this]; exact sc
     have bd:vd<4294967296:=by have:=RS.num_lt rc 4; rw [hd1] at this; exact this
     rw [hd1] at HEQ
     dsimp only at HEQ
     have Hd1:=Lib.hid hd1
     clear hd1
     by_cases hcond:x.size<12∨(gN x 0 4=134695760∧x.size<16)
     · rw [if_pos hcond] at HEQ HX0
       clear hcond
       go_enter Tryz.func62,Tryz.ntmps62
       go_wp2_with fail
       rw [← HXD.out]
       refine (jS x _).mono ?_
       rintro e y0 ⟨rfl,hR0,hv0⟩
       have HG0:=Lib.hid (Nat.le_refl w.heap.size)
       generalize hb0:w.heap.size=b0 at *
       have HG:Hid (w.heap.size≤b0):=Lib.hid (by omega)
       clear HG0 hb0
       have HR0:=Lib.hid hR0
       have HU0:=Lib.hid hv0
       clear hR0 hv0
       go_wp2_with fail
       refine (yi b0 4 va ⟨x,0,false⟩ ra _ Ha1.out HR0.out hxs (Nat.zero_le _) (by omega)).mono ?_
       rintro e y1 ⟨rfl,hR1,hv1⟩
       have HR1:=Lib.hid hR1
       have HU1:=Lib.hid (HU0.out.trans hv1 (fun k hk => .inr (by simp at hk; have:=HG.out; omega)))
       clear hR1 hv1 HR0 HU0
       go_wp2_with fail
       refine (yi b0 4 vc ra rc _ Hc1.out HR1.out sa oa (by omega)).mono ?_
       rintro e y2 ⟨rfl,hR2,hv2⟩
       have HR2:=Lib.hid hR2
       have HU2:=Lib.hid (HU1.out.trans hv2 (fun k hk => .inr (by simp at hk; have:=HG.out; omega)))
       clear hR2 hv2 HR1 HU1
       go_wp2_with fail
       refine (yi b0 4 vd rc rd _ Hd1.out HR2.out sc oc (by omega)).mono ?_
       rintro e y3 ⟨rfl,hR3,hv3⟩
       have HR3:=Lib.hid hR3
       have HU3:=Lib.hid (HU2.out.trans hv3 (fun k hk => .inr (by simp at hk; have:=HG.out; omega)))
       clear hR3 hv3 HR2 HU2
       go_wp2_with fail
       refine (qS b0 _ _ HR3.out).mono ?_
       rintro e y9 ⟨rfl,rfl⟩
       rw [HEQ.out]
       go_wp2
       (try simp only [Exit.inBlock,Exit.then]); refine bodyPost_ret (zS rfl _ _ _) rfl ⟨?_,HU3.out⟩
       rw [HV.out,HX0.out]; rfl
     · rw [if_neg hcond] at HEQ
       clear hcond HX0
       have HE:=HEQ.out
       clear HEQ
       generalize xV x=TX at *
       obtain ⟨t1,t2,t3,t4,t5⟩:=TX
       dsimp only at HE
       obtain ⟨he,rfl⟩:=HE
       simp only [Prod.mk.injEq] at he
       obtain ⟨e1,e2,e3,e4⟩:=he
       subst e1 e2 e3
       have HB4:Hid (rd.bad=false):=Lib.hid (by rw [e4])
       have HP4:Hid (rd.p=t4):=Lib.hid (by rw [e4])
       clear e4
       go_enter Tryz.func62,Tryz.ntmps62
       go_wp2_with fail
       rw [← HXD.out]
       refine (jS x _).mono ?_
       rintro e y0 ⟨rfl,hR0,hv0⟩
       have HG0:=Lib.hid (Nat.le_refl w.heap.size)
       generalize hb0:w.heap.size=b0 at *
       have HG:Hid (w.heap.size≤b0):=Lib.hid (by omega)
       clear HG0 hb0
       have HR0:=Lib.hid hR0
       have HU0:=Lib.hid hv0
       clear hR0 hv0
       go_wp2_with fail
       refine (yi b0 4 va ⟨x,0,false⟩ ra _ Ha1.out HR0.out hxs (Nat.zero_le _) (by omega)).mono ?_
       rintro e y1 ⟨rfl,hR1,hv1⟩
       have HR1:=Lib.hid hR1
       have HU1:=Lib.hid (HU0.out.trans hv1 (fun k hk => .inr (by simp at hk; have:=HG.out; omega)))
       clear hR1 hv1 HR0 HU0
       go_wp2_with fail
       refine (yi b0 4 vc ra rc _ Hc1.out HR1.out sa oa (by omega)).mono ?_
       rintro e y2 ⟨rfl,hR2,hv2⟩
       have HR2:=Lib.hid hR2
       have HU2:=Lib.hid (HU1.out.trans hv2 (fun k hk => .inr (by simp at hk; have:=HG.out; omega)))
       clear hR2 hv2 HR1 HU1
       go_wp2_with fail
       refine (yi b0 4 vd rc rd _ Hd1.out HR2.out sc oc (by omega)).mono ?_
       rintro e y3 ⟨rfl,hR3,hv3⟩
       have HR3:=Lib.hid hR3
       have HU3:=Lib.hid (HU2.out.trans hv3 (fun k hk => .inr (by simp at hk; have:=HG.out; omega)))
       clear hR3 hv3 HR2 HU2
       go_wp2_with fail
       refine (qS b0 _ _ HR3.out).mono ?_
       rintro e y9 ⟨rfl,rfl⟩
       rw [HB4.out]
       go_wp2_with fail
       refine (ZZ b0 _ _ HR3.out).mono ?_
       rintro e y10 ⟨rfl,rfl⟩
       rw [HP4.out]
       go_wp2
       (try simp only [Exit.inBlock,Exit.then]); refine bodyPost_ret (zS rfl _ _ _) rfl ⟨?_,HU3.out⟩
       rw [HV.out]; rfl
end Go.Proofs.YtfkcdnaghndgfaaGreatDoor
namespace Go.Proofs.YtfkcdnaghndgfaaGreatDoor
open Go.RowKit
set_option maxRecDepth 100000 in
set_option maxHeartbeats 3200000 in
theorem zdS (s:ByteArray) (h r:RecD) (f:Int) (b:Bool) (w:World) (hs:s.size≤1000000) (hf:0≤f∧f≤4000000000) (hl:0≤r.l∧r.l<2147483648) :
 Calls Tryz.prog 28 #[.string s,h.v,r.v,.int .i64 f,.bool b] w fun e w'=>e = .returned (.tuple #[.int .i64 ((qJ s h r f b).1:Nat),.int .i64 ((qJ s h r f b).2:Nat)])∧Upd [] w w':=by
 have HTL:=Lib.hid (fun w=>zgt s (f+r.l) w hs)
 obtain ⟨p,m,sum,l,wh,k,md,t,pos⟩:=h
 obtain ⟨p2,m2,sum2,l2,wh2,k2,md2,t2,pos2⟩:=r
 dsimp only at hl HTL
 have hw1:IntKind.i64.wrap (f+l2)=f+l2:=IntWalk.i64_in _ (by omega)
 have HT:Hid (qJ s ⟨p,m,sum,l,wh,k,md,t,pos⟩ ⟨p2,m2,sum2,l2,wh2,k2,md2,t2,pos2⟩ f b=if b=true then (if (yY s (f+l2)).2.2.2.2=false then (0,3)
  else if (yY s (f+l2)).1≠sum2∨((yY s (f+l2)).2.1:Int)≠l2∨((yY s (f+l2)).2.2.1:Int)≠wh2 then (0,2) else ((yY s (f+l2)).2.2.2.1,0)) else if sum≠sum2∨l≠l2∨wh≠wh2 then (0,2) else (0,0)):=Lib.hid rfl
 generalize qJ s ⟨p,m,sum,l,wh,k,md,t,pos⟩ ⟨p2,m2,sum2,l2,wh2,k2,md2,t2,pos2⟩ f b=TP at *
 generalize yY s (f+l2)=X at *
 obtain ⟨x1,x2,x3,x4,x5⟩:=X
 unfold zcX at HTL
 dsimp only at HTL
 unfold RecD.v
 dsimp only
 have HA:=Lib.hid ((Blk.new w [.string p,.int .i64 m,.int .u32 (sum:Nat),.int .i64 l,.int .i64 wh,.int .i64 k,.int .i64 md,.int .u32 (t:Nat),.int .i64 pos] 26).alloc (.cells #[.string p2,.int .i64 m2,.int .u32 (sum2:Nat),.int .i64 l2,.int .i64 wh2,.int .i64 k2,.int .i64 md2,.int .u32 (t2:Nat),.int .i64 pos2] 26))
 have HB:Hid (Blk ((w.alloc (.cells #[.string p,.int .i64 m,.int .u32 (sum:Nat),.int .i64 l,.int .i64 wh,.int .i64 k,.int .i64 md,.int .u32 (t:Nat),.int .i64 pos] 26)).alloc (.cells #[.string p2,.int .i64 m2,.int .u32 (sum2:Nat),.int .i64 l2,.int .i64 wh2,.int .i64 k2,.int .i64 md2,.int .u32 (t2:Nat),.int .i64 pos2] 26)) (w.heap.size+1) [.string p2,.int .i64 m2,.int .u32 (sum2:Nat),.int .i64 l2,.int .i64 wh2,.int .i64 k2,.int .i64 md2,.int .u32 (t2:Nat),.int .i64 pos2] 26):=Lib.hid (by
  have h:=Blk.new (w.alloc (.cells #[.string p,.int .i64 m,.int .u32 (sum:Nat),.int .i64 l,.int .i64 wh,.int .i64 k,.int .i64 md,.int .u32 (t:Nat),.int .i64 pos] 26)) [.string p2,.int .i64 m2,.int .u32 (sum2:Nat),.int .i64 l2,.int .i64 wh2,.int .i64 k2,.int .i64 md2,.int .u32 (t2:Nat),.int .i64 pos2] 26
  simpa using h)
 have HU:=Lib.hid (((Upd.refl [] w).alloc (.cells #[.string p,.int .i64 m,.int .u32 (sum:Nat),.int .i64 l,.int .i64 wh,.int .i64 k,.int .i64 md,.int .u32 (t:Nat),.int .i64 pos] 26)).alloc (.cells #[.string p2,.int .i64 m2,.int .u32 (sum2:Nat),.int .i64 l2,.int .i64 wh2,.int .i64 k2,.int .i64 md2,.int .u32 (t2:Nat),.int .i64 pos2] 26))
 go_enter Tryz.func28,Tryz.ntmps28
 go_upto_region 1 with fail
 change Code.wp _ _ _ _ ((w.alloc (.cells #[.string p,.int .i64 m,.int .u32 (sum:Nat),.int .i64 l,.int .i64 wh,.int .i64 k,.int .i64 md,.int .u32 (t:Nat),.int .i64 pos] 26)).alloc (.cells #[.string p2,.int .i64 m2,.int .u32 (sum2:Nat),.int .i64 l2,.int .i64 wh2,.int .i64 k2,.int .i64 md2,.int .u32 (t2:Nat),.int .i64 pos2] 26))
 generalize (w.alloc (.cells #[.string p,.int .i64 m,.int .u32 (sum:Nat),.int .i64 l,.int .i64 wh,.int .i64 k,.int .i64 md,.int .u32 (t:Nat),.int .i64 pos] 26)).alloc (.cells #[.string p2,.int .i64 m2,.int .u32 (sum2:Nat),.int .i64 l2,.int .i64 wh2,.int .i64 k2,.int .i64 md2,.int .u32 (t2:Nat),.int .i64 pos2] 26)=w1 at *
 obtain ⟨g,hg⟩ : ∃ g,w.heap.size=g:=⟨_,rfl⟩
 obtain ⟨c,hc⟩ : ∃ c,g+1=c:=⟨_,rfl⟩
 rw [hg] at HA HB ⊢
 rw [hc] at HB ⊢
 have hbc:g≠c:=by omega
 have HW:=Lib.hid (show w.heap.size≤g by omega)
 clear hg hc
 cases b with
 | false =>
   have HT:=Lib.hid (HT.out.trans (if_neg (by simp)))
   have rA:=HB.out.all
   have r3:=HB.out.cell 3 rfl
   have aA:=HA.out.all
   by_cases h1:sum=sum2
   · have e1:(((sum:Nat):Int) != ((sum2:Nat):Int))=false:=by rw [bne_eq_false_iff_eq]; omega
     by_cases h2:(l:Int)=l2
     · have e2:((l:Int) != l2)=false:=by rw [bne_eq_false_iff_eq]; exact h2
       by_cases h3:(wh:Int)=wh2
       · have e3:((wh:Int) != wh2)=false:=by rw [bne_eq_false_iff_eq]; exact h3
         have HV:=Lib.hid (HT.out.trans (if_neg (by simp [h1,h2,h3])))
         clear h1 h2 h3
         go_wp2
         go_returns
         exact ⟨by rw [HV.out]; rfl,HU.out⟩
       · have e3:((wh:Int) != wh2)=true:=by rw [bne_iff_ne]; exact h3
         have HV:=Lib.hid (HT.out.trans (if_pos (.inr (.inr h3))))
         clear h1 h2 h3
         go_wp2
         go_returns
         exact ⟨by rw [HV.out]; rfl,HU.out⟩
     · have e2:((l:Int) != l2)=true:=by rw [bne_iff_ne]; exact h2
       have HV:=Lib.hid (HT.out.trans (if_pos (.inr (.inl h2))))
       clear h1 h2
       go_wp2
       go_returns
       exact ⟨by rw [HV.out]; rfl,HU.out⟩
   · have e1:(((sum:Nat):Int) != ((sum2:Nat):Int))=true:=by rw [bne_iff_ne]; omega
     have HV:=Lib.hid (HT.out.trans (if_pos (.inl h1)))
     clear h1
     go_wp2
     go_returns
     exact ⟨by rw [HV.out]; rfl,HU.out⟩
 | true =>
   have HT:=Lib.hid (HT.out.trans (if_pos rfl))
   have r3:=HB.out.cell 3 rfl
   go_wp2_with fail
   refine (HTL.out _).mono ?_
   rintro e w2 ⟨rfl,hu2⟩
   have HA2:=Lib.hid (HA.out.upd hu2 (by simp))
   have HB2:=Lib.hid (HB.out.upd hu2 (by simp))
   have HU2:=Lib.hid (HU.out.then hu2)
   clear r3 hu2 HA HB HU HTL
   cases x5 with
   | false =>
     have HV:=Lib.hid (HT.out.trans (if_pos rfl))
     go_wp2
     go_returns
     exact ⟨by rw [HV.out]; rfl,HU2.out⟩
   | true =>
     have HT:=Lib.hid (HT.out.trans (if_neg (by simp)))
     have HA3:=Lib.hid (((HA2.out.set 2 (.int .u32 (x1:Nat))).set 3 (.int .i64 (x2:Nat))).set 4 (.int .i64 (x3:Nat)))
     have HU3:=Lib.hid (((HU2.out.setCell (p:=⟨g,2,none⟩) (.inr HW.out) (.int .u32 (x1:Nat))).setCell (p:=⟨g,3,none⟩) (.inr HW.out) (.int .i64 (x2:Nat))).setCell (p:=⟨g,4,none⟩) (.inr HW.out) (.int .i64 (x3:Nat)))
     have HB3:=Lib.hid (((HB2.out.setFar (a:=⟨g,2,none⟩) (.int .u32 (x1:Nat)) (Ne.symm hbc)).setFar (a:=⟨g,3,none⟩) (.int .i64 (x2:Nat)) (Ne.symm hbc)).setFar (a:=⟨g,4,none⟩) (.int .i64 (x3:Nat)) (Ne.symm hbc))
     have aA:=HA2.out.all
     have fA:=HA2.out.frz
     go_upto_region 7 with fail
     generalize ((w2.setCell ⟨g,2,none⟩ (.int .u32 (x1:Nat))).setCell ⟨g,3,none⟩ (.int .i64 (x2:Nat))).setCell ⟨g,4,none⟩ (.int .i64 (x3:Nat))=w3 at *
     clear aA fA
     have aA:=HA3.out.all
     have rA:=HB3.out.all
     have r3:=HB3.out.cell 3 rfl
     by_cases h1:x1=sum2
     · have e1:(((x1:Nat):Int) != ((sum2:Nat):Int))=false:=by rw [bne_eq_false_iff_eq]; omega
       by_cases h2:(((x2:Nat):Int):Int)=l2
       · have e2:((((x2:Nat):Int):Int) != l2)=false:=by rw [bne_eq_false_iff_eq]; exact h2
         by_cases h3:(((x3:Nat):Int):Int)=wh2
         · have e3:((((x3:Nat):Int):Int) != wh2)=false:=by rw [bne_eq_false_iff_eq]; exact h3
           have HV:=Lib.hid (HT.out.trans (if_neg (by simp [h1,h2,h3])))
           clear h1 h2 h3
           go_wp2
           go_returns
           exact ⟨by rw [HV.out]; rfl,HU3.out⟩
         · have e3:((((x3:Nat):Int):Int) != wh2)=true:=by rw [bne_iff_ne]; exact h3
           have HV:=Lib.hid (HT.out.trans (if_pos (.inr (.inr h3))))
           clear h1 h2 h3
           go_wp2
           go_returns
           exact ⟨by rw [HV.out]; rfl,HU3.out⟩
       · have e2:((((x2:Nat):Int):Int) != l2)=true:=by rw [bne_iff_ne]; exact h2
         have HV:=Lib.hid (HT.out.trans (if_pos (.inr (.inl h2))))
         clear h1 h2
         go_wp2
         go_returns
         exact ⟨by rw [HV.out]; rfl,HU3.out⟩
     · have e1:(((x1:Nat):Int) != ((sum2:Nat):Int))=true:=by rw [bne_iff_ne]; omega
       have HV:=Lib.hid (HT.out.trans (if_pos (.inl h1)))
       clear h1
       go_wp2
       go_returns
       exact ⟨by rw [HV.out]; rfl,HU3.out⟩
end Go.Proofs.YtfkcdnaghndgfaaGreatDoor
