/- Packages local and swingleref19: Tail: plain, and walks. -/
import Derived.Test.YtfkenhihcmmgkaaGreatDoorQAS
set_option linter.unusedVariables false
set_option linter.unusedSimpArgs false
set_option linter.unusedSectionVars false
set_option maxRecDepth 100000
set_option maxHeartbeats 12800000
namespace Go.Proofs.YtfkenhihcmmgkaaGreatDoor
open Go.RowKit
def zdy (t:Nat×Nat×Nat×Nat×Bool):Value := .tuple #[.int .u32 (t.1:Nat),.int .i64 (t.2.1:Nat),.int .i64 (t.2.2.1:Nat),.int .i64 (t.2.2.2.1:Nat),.bool t.2.2.2.2]
theorem yd {fn:Func} {t u v x y:Tmp} (h:fn.results = #[.tmp t,.tmp u,.tmp v,.tmp x,.tmp y]) (tmps:Array Value) (P:Program) (w:World) :
 (results fn tmps).run P w = .ok (.tuple #[tmps.getD t undef,tmps.getD u undef,tmps.getD v undef,tmps.getD x undef,tmps.getD y undef]) w:=by
 simp [results,h]
theorem Wu (x:ByteArray) (i:Nat):gN x i 4<4294967296:=zhx x i 4
theorem zeR (s:ByteArray) (a:Int) (w:World) (hs:s.size≤1000000):Calls Tryz.prog 64 #[.string s,.int .i64 a] w fun e w'=>e = .returned (zdy (xm s a))∧Upd [] w w':=by
 by_cases ha:a<0∨(s.size:Int)<a
 · have HV:Hid (xm s a=(0,0,0,0,false)):=Hi (if_pos ha);rcases ha with ha | ha
   · go_enter Tryz.func64,Tryz.ntmps64;go_wp2;(try simp only [Exit.inBlock,Exit.then]); refine bodyPost_ret (yd rfl _ _ _) rfl ⟨?_,Upd.refl _ _⟩
     rw [HV.out]; rfl
   · have ha0 : ¬ a<0:=(by omega);go_enter Tryz.func64,Tryz.ntmps64;go_wp2;(try simp only [Exit.inBlock,Exit.then]); refine bodyPost_ret (yd rfl _ _ _) rfl ⟨?_,Upd.refl _ _⟩
     rw [HV.out]; rfl
 · obtain ⟨i,rfl⟩ : ∃ i:Nat,a=i:=⟨a.toNat,by omega⟩;have hi0:(0:Int)≤(i:Int):=(by omega);have hi1:(i:Int)≤(s.size:Int):=(by omega);obtain ⟨x,hx⟩ : ∃ x,x=s.extract i s.size:=⟨_,rfl⟩;have hxs:x.size=s.size-i:=(by rw [hx,ByteArray.size_extract]; omega);have HV:Hid (xm s i=xX x):=Hi (by unfold xm; rw [if_neg ha,hx]; rfl);have HXD:=Hi hx;clear ha hx;by_cases h12:x.size<12
   · have HV2:Hid (xX x=(0,0,0,0,false)):=Hi (if_pos (.inl h12));have hz:(s.size:Int)-(i:Int)<12:=(by omega);go_enter Tryz.func64,Tryz.ntmps64;go_wp2;(try simp only [Exit.inBlock,Exit.then]); refine bodyPost_ret (yd rfl _ _ _) rfl ⟨?_,Upd.refl _ _⟩
     rw [HV.out,HV2.out]; rfl
   · have hz : ¬ (s.size:Int)-(i:Int)<12:=(by omega);have hM2:(((s.extract i s.size).extract 0 4).toList==[80,75,7,8])=decide (gN x 0 4=134695760):=(by rw [← HXD.out]; exact zg4 x (by omega) [80,75,7,8] 134695760 rfl (by decide));have hxm:x.size≤1000000:=(by omega);have hx4:(4:Int)≤((s.extract i s.size).size:Int):=(by rw [← HXD.out]; omega);have b0:=Wu x 0;have b4:=Wu x 4;have b8:=Wu x 8;have b12:=Wu x 12;have HA0:=Hi (fun w h=>JW x 0 4 w h hxm (by omega));have HA4:=Hi (fun w h=>JW x 4 4 w h hxm (by omega));have HA8:=Hi (fun w h=>JW x 8 4 w h hxm (by omega));have HA12:=Hi (fun w h=>JW x 12 4 w h hxm (by omega));by_cases hb:gN x 0 4=134695760
     · rw [decide_eq_true hb] at hM2;by_cases h16:x.size<16
       · have HV2:Hid (xX x=(0,0,0,0,false)):=Hi (if_pos (.inr ⟨hb,h16⟩));have hz2:((s.extract i s.size).size:Int)<16:=(by rw [← HXD.out]; omega);clear hb;go_enter Tryz.func64,Tryz.ntmps64;go_wp2;(try simp only [Exit.inBlock,Exit.then]); refine bodyPost_ret (yd rfl _ _ _) rfl ⟨?_,Upd.refl _ _⟩
         rw [HV.out,HV2.out]; rfl
       · have HV2:Hid (xX x=(gN x 4 4,gN x 8 4,gN x 12 4,16,true)):=Hi (by unfold xX; rw [if_neg (by omega),if_pos hb]);have hz2 : ¬ ((s.extract i s.size).size:Int)<16:=(by rw [← HXD.out]; omega);clear hb;generalize gN x 4 4=va at *;generalize gN x 8 4=vb at *;generalize gN x 12 4=vc at *;go_enter Tryz.func64,Tryz.ntmps64;(go_wp2_with fail);rw [← HXD.out];refine (HA4.out _ (by omega)).mono ?_;rintro e w1 ⟨rfl,hU1⟩;(go_wp2_with fail);(try rw [← HXD.out]);refine (HA8.out _ (by omega)).mono ?_;rintro e w2 ⟨rfl,hU2⟩;(go_wp2_with fail);(try rw [← HXD.out]);refine (HA12.out _ (by omega)).mono ?_;rintro e w3 ⟨rfl,hU3⟩;go_wp2;(try simp only [Exit.inBlock,Exit.then]); refine bodyPost_ret (yd rfl _ _ _) rfl ⟨?_,(hU1.then hU2).then hU3⟩
         rw [HV.out,HV2.out]; rfl
     · rw [decide_eq_false hb] at hM2;have HV2:Hid (xX x=(gN x 0 4,gN x 4 4,gN x 8 4,12,true)):=Hi (by unfold xX; rw [if_neg (by omega),if_neg hb]);have hz2 : ¬ ((s.extract i s.size).size:Int)<12:=(by rw [← HXD.out]; omega);clear hb;generalize gN x 0 4=va at *;generalize gN x 4 4=vb at *;generalize gN x 8 4=vc at *;go_enter Tryz.func64,Tryz.ntmps64;(go_wp2_with fail);rw [← HXD.out];refine (HA0.out _ (by omega)).mono ?_;rintro e w1 ⟨rfl,hU1⟩;(go_wp2_with fail);(try rw [← HXD.out]);refine (HA4.out _ (by omega)).mono ?_;rintro e w2 ⟨rfl,hU2⟩;(go_wp2_with fail);(try rw [← HXD.out]);refine (HA8.out _ (by omega)).mono ?_;rintro e w3 ⟨rfl,hU3⟩;go_wp2;(try simp only [Exit.inBlock,Exit.then]); refine bodyPost_ret (yd rfl _ _ _) rfl ⟨?_,(hU1.then hU2).then hU3⟩
       rw [HV.out,HV2.out]; rfl
def zd7 (r:RS):Nat×Nat×Nat×RS :=
 let a:=r.num 4
 let b:=if a.1=134695760 then a.2.num 4 else a
 let c:=b.2.num 4
 let d:=c.2.num 4
 (b.1,c.1,d.1,d.2)
theorem zgu (x:ByteArray):if x.size<12∨(gN x 0 4=134695760∧x.size<16) then (zd7 ⟨x,0,false⟩).2.2.2.bad=true
 else zd7 ⟨x,0,false⟩=((xX x).1,(xX x).2.1,(xX x).2.2.1,⟨x,(xX x).2.2.2.1,false⟩)∧(xX x).2.2.2.2=true:=by
 have nbad : ∀ r:RS,r.bad=true → ∀ k,(r.num k).2.bad=true:=fun r h k=>by unfold RS.num; exact RS.text_isbad h k
 have nshort : ∀ p k,p≤x.size→x.size<p+k→((⟨x,p,false⟩:RS).num k).2.bad=true:=fun p k h1 h2=>by unfold RS.num; exact RS.text_not ⟨x,p,false⟩ k h2 h1
 have nz : ∀ k,x.size<k→((⟨x,0,false⟩:RS).num k).1=0:=fun k h=>by unfold RS.num; rw [RS.text_short k (by omega)]; rfl
 unfold zd7 xX;dsimp only;by_cases h4:x.size<4
 · rw [if_pos (.inl (by omega)),nz 4 h4,if_neg (by decide)];exact nbad _ (nbad _ (nshort 0 4 (by omega) (by omega)) 4) 4
 · rw [zG 4 (by omega:0+4≤x.size)];dsimp only;by_cases hb:gN x 0 4=134695760
   · rw [if_pos hb];by_cases h8:x.size<8
     · rw [if_pos (.inl (by omega))];exact nbad _ (nbad _ (nshort (0+4) 4 (by omega) (by omega)) 4) 4
     · rw [zG 4 (by omega:0+4+4≤x.size)];dsimp only;by_cases h12:x.size<12
       · rw [if_pos (.inl h12)];exact nbad _ (nshort (0+4+4) 4 (by omega) (by omega)) 4
       · rw [zG 4 (by omega:0+4+4+4≤x.size)];dsimp only;by_cases h16:x.size<16
         · rw [if_pos (.inr ⟨hb,h16⟩)];exact nshort (0+4+4+4) 4 (by omega) (by omega)
         · have hn : ¬ (x.size<12∨gN x 0 4=134695760∧x.size<16):=(by omega);rw [if_neg hn,zG 4 (by omega:0+4+4+4+4≤x.size),if_neg hn,if_pos hb];exact ⟨rfl,rfl⟩
   · rw [if_neg hb];dsimp only;by_cases h8:x.size<8
     · rw [if_pos (.inl (by omega))];exact nbad _ (nshort (0+4) 4 (by omega) (by omega)) 4
     · rw [zG 4 (by omega:0+4+4≤x.size)];dsimp only;by_cases h12:x.size<12
       · rw [if_pos (.inl h12)];exact nshort (0+4+4) 4 (by omega) (by omega)
       · have hn : ¬ (x.size<12∨gN x 0 4=134695760∧x.size<16):=(by omega);rw [if_neg hn,zG 4 (by omega:0+4+4+4≤x.size),if_neg hn,if_neg hb];exact ⟨rfl,rfl⟩
theorem zhr (s:ByteArray) (a:Int) (w:World) (hs:s.size≤1000000):Calls Tryz.prog 110 #[.string s,.int .i64 a] w fun e w'=>e = .returned (zdy (xm s a))∧Upd [] w w':=by
 by_cases ha:a<0∨(s.size:Int)<a
 · have HV:Hid (xm s a=(0,0,0,0,false)):=Hi (if_pos ha);rcases ha with ha | ha
   · go_enter Tryz.func110,Tryz.ntmps110;go_wp2;(try simp only [Exit.inBlock,Exit.then]); refine bodyPost_ret (yd rfl _ _ _) rfl ⟨?_,Upd.refl _ _⟩
     rw [HV.out]; rfl
   · have ha0 : ¬ a<0:=(by omega);go_enter Tryz.func110,Tryz.ntmps110;go_wp2;(try simp only [Exit.inBlock,Exit.then]); refine bodyPost_ret (yd rfl _ _ _) rfl ⟨?_,Upd.refl _ _⟩
     rw [HV.out]; rfl
 · obtain ⟨i,rfl⟩ : ∃ i:Nat,a=i:=⟨a.toNat,by omega⟩;have hi0:(0:Int)≤(i:Int):=(by omega);have hi1:(i:Int)≤(s.size:Int):=(by omega);obtain ⟨x,hx⟩ : ∃ x,x=s.extract i s.size:=⟨_,rfl⟩;have hxs:x.size≤1000000:=(by rw [hx,ByteArray.size_extract]; omega);have HV:Hid (xm s i=xX x):=Hi (by unfold xm; rw [if_neg ha,hx]; rfl);have HXD:=Hi hx;have HEQ:=Hi (zgu x);clear ha hx;have HX0:Hid (xX x=if x.size<12∨(gN x 0 4=134695760∧x.size<16) then (0,0,0,0,false) else xX x):=Hi (by
    by_cases h:x.size<12∨(gN x 0 4=134695760∧x.size<16)
    · rw [if_pos h]; unfold xX; rw [if_pos h]
    · rw [if_neg h])
   unfold zd7 at HEQ;obtain ⟨va,ra,ha1⟩ : ∃ v r',(⟨x,0,false⟩:RS).num 4=(v,r'):=⟨_,_,rfl⟩;have oa:ra.Ok:=(by have:=RS.num_ok (show (⟨x,0,false⟩:RS).Ok from Nat.zero_le _) 4; rw [ha1] at this; exact this);have sa:ra.s.size≤1000000:=(by have:=RS.num_s (⟨x,0,false⟩:RS) 4; rw [ha1] at this; dsimp only at this; rw [this]; exact hxs);have ba:va<4294967296:=(by have:=RS.num_lt (⟨x,0,false⟩:RS) 4; rw [ha1] at this; exact this);rw [ha1] at HEQ;dsimp only at HEQ;have Ha1:=Hi ha1;clear ha1;by_cases hb:va=134695760
   · subst hb;rw [if_pos rfl] at HEQ;obtain ⟨vb,rb,hb1⟩ : ∃ v r',ra.num 4=(v,r'):=⟨_,_,rfl⟩;have ob:rb.Ok:=(by have:=RS.num_ok oa 4; rw [hb1] at this; exact this);have sb:rb.s.size≤1000000:=(by have:=RS.num_s ra 4; rw [hb1] at this; dsimp only at this; rw [this]; exact sa);have bb:vb<4294967296:=(by have:=RS.num_lt ra 4; rw [hb1] at this; exact this);rw [hb1] at HEQ;dsimp only at HEQ;have Hb1:=Hi hb1;clear hb1;obtain ⟨vc,rc,hc1⟩ : ∃ v r',rb.num 4=(v,r'):=⟨_,_,rfl⟩;have oc:rc.Ok:=(by have:=RS.num_ok ob 4; rw [hc1] at this; exact this);have sc:rc.s.size≤1000000:=(by have:=RS.num_s rb 4; rw [hc1] at this; dsimp only at this; rw [this]; exact sb);have bc:vc<4294967296:=(by have:=RS.num_lt rb 4; rw [hc1] at this; exact this);rw [hc1] at HEQ;dsimp only at HEQ;have Hc1:=Hi hc1;clear hc1;obtain ⟨vd,rd,hd1⟩ : ∃ v r',rc.num 4=(v,r'):=⟨_,_,rfl⟩;have od:rd.Ok:=(by have:=RS.num_ok oc 4; rw [hd1] at this; exact this);have sd:rd.s.size≤1000000:=(by have:=RS.num_s rc 4; rw [hd1] at this; dsimp only at this; rw [this]; exact sc);have bd:vd<4294967296:=(by have:=RS.num_lt rc 4; rw [hd1] at this; exact this);rw [hd1] at HEQ;dsimp only at HEQ;have Hd1:=Hi hd1;clear hd1;by_cases hcond:x.size<12∨(gN x 0 4=134695760∧x.size<16)
     · rw [if_pos hcond] at HEQ HX0;clear hcond;go_enter Tryz.func110,Tryz.ntmps110;(go_wp2_with fail);rw [← HXD.out];refine (qp x _).mono ?_;rintro e y0 ⟨rfl,hR0,hv0⟩;have HG0:=Hi (Nat.le_refl w.heap.size);generalize hb0:w.heap.size=b0 at *;have HG:Hid (w.heap.size≤b0):=Hi (by omega);clear HG0 hb0;have HR0:=Hi hR0;have HU0:=Hi hv0;clear hR0 hv0;(go_wp2_with fail);refine (zM b0 4 134695760 ⟨x,0,false⟩ ra _ Ha1.out HR0.out hxs (Nat.zero_le _) (by omega)).mono ?_;rintro e y1 ⟨rfl,hR1,hv1⟩;have HR1:=Hi hR1;have HU1:=Hi (HU0.out.trans hv1 (fun k hk => .inr (by simp at hk; have:=HG.out; omega)));clear hR1 hv1 HR0 HU0;(go_wp2_with fail);refine (zM b0 4 vb ra rb _ Hb1.out HR1.out sa oa (by omega)).mono ?_;rintro e y2 ⟨rfl,hR2,hv2⟩;have HR2:=Hi hR2;have HU2:=Hi (HU1.out.trans hv2 (fun k hk => .inr (by simp at hk; have:=HG.out; omega)));clear hR2 hv2 HR1 HU1;(go_wp2_with fail);refine (zM b0 4 vc rb rc _ Hc1.out HR2.out sb ob (by omega)).mono ?_;rintro e y3 ⟨rfl,hR3,hv3⟩;have HR3:=Hi hR3;have HU3:=Hi (HU2.out.trans hv3 (fun k hk => .inr (by simp at hk; have:=HG.out; omega)));clear hR3 hv3 HR2 HU2;(go_wp2_with fail);refine (zM b0 4 vd rc rd _ Hd1.out HR3.out sc oc (by omega)).mono ?_;rintro e y4 ⟨rfl,hR4,hv4⟩;have HR4:=Hi hR4;have HU4:=Hi (HU3.out.trans hv4 (fun k hk => .inr (by simp at hk; have:=HG.out; omega)));clear hR4 hv4 HR3 HU3;(go_wp2_with fail);refine (xP b0 _ _ HR4.out).mono ?_;rintro e y9 ⟨rfl,rfl⟩;rw [HEQ.out];go_wp2;(try simp only [Exit.inBlock,Exit.then]); refine bodyPost_ret (yd rfl _ _ _) rfl ⟨?_,HU4.out⟩
       rw [HV.out,HX0.out]; rfl
     · rw [if_neg hcond] at HEQ;clear hcond HX0;have HE:=HEQ.out;clear HEQ;generalize xX x=TX at *;obtain ⟨t1,t2,t3,t4,t5⟩:=TX;dsimp only at HE;obtain ⟨he,rfl⟩:=HE;simp only [Prod.mk.injEq] at he;obtain ⟨e1,e2,e3,e4⟩:=he;subst e1 e2 e3;have HB4:Hid (rd.bad=false):=Hi (by rw [e4]);have HP4:Hid (rd.p=t4):=Hi (by rw [e4]);clear e4;go_enter Tryz.func110,Tryz.ntmps110;(go_wp2_with fail);rw [← HXD.out];refine (qp x _).mono ?_;rintro e y0 ⟨rfl,hR0,hv0⟩;have HG0:=Hi (Nat.le_refl w.heap.size);generalize hb0:w.heap.size=b0 at *;have HG:Hid (w.heap.size≤b0):=Hi (by omega);clear HG0 hb0;have HR0:=Hi hR0;have HU0:=Hi hv0;clear hR0 hv0;(go_wp2_with fail);refine (zM b0 4 134695760 ⟨x,0,false⟩ ra _ Ha1.out HR0.out hxs (Nat.zero_le _) (by omega)).mono ?_;rintro e y1 ⟨rfl,hR1,hv1⟩;have HR1:=Hi hR1;have HU1:=Hi (HU0.out.trans hv1 (fun k hk => .inr (by simp at hk; have:=HG.out; omega)));clear hR1 hv1 HR0 HU0;(go_wp2_with fail);refine (zM b0 4 vb ra rb _ Hb1.out HR1.out sa oa (by omega)).mono ?_;rintro e y2 ⟨rfl,hR2,hv2⟩;have HR2:=Hi hR2;have HU2:=Hi (HU1.out.trans hv2 (fun k hk => .inr (by simp at hk; have:=HG.out; omega)));clear hR2 hv2 HR1 HU1;(go_wp2_with fail);refine (zM b0 4 vc rb rc _ Hc1.out HR2.out sb ob (by omega)).mono ?_;rintro e y3 ⟨rfl,hR3,hv3⟩;have HR3:=Hi hR3;have HU3:=Hi (HU2.out.trans hv3 (fun k hk => .inr (by simp at hk; have:=HG.out; omega)));clear hR3 hv3 HR2 HU2;(go_wp2_with fail);refine (zM b0 4 vd rc rd _ Hd1.out HR3.out sc oc (by omega)).mono ?_;rintro e y4 ⟨rfl,hR4,hv4⟩;have HR4:=Hi hR4;have HU4:=Hi (HU3.out.trans hv4 (fun k hk => .inr (by simp at hk; have:=HG.out; omega)));clear hR4 hv4 HR3 HU3;(go_wp2_with fail);refine (xP b0 _ _ HR4.out).mono ?_;rintro e y9 ⟨rfl,rfl⟩;rw [HB4.out];(go_wp2_with fail);refine (Qo b0 _ _ HR4.out).mono ?_;rintro e y10 ⟨rfl,rfl⟩;rw [HP4.out];go_wp2;(try simp only [Exit.inBlock,Exit.then]); refine bodyPost_ret (yd rfl _ _ _) rfl ⟨?_,HU4.out⟩
       rw [HV.out]; rfl
   · rw [if_neg hb] at HEQ;dsimp only at HEQ;have tb:((va:Int)==134695760)=false:=(by rw [beq_eq_false_iff_ne]; omega);obtain ⟨vc,rc,hc1⟩ : ∃ v r',ra.num 4=(v,r'):=⟨_,_,rfl⟩;have oc:rc.Ok:=(by have:=RS.num_ok oa 4; rw [hc1] at this; exact this);have sc:rc.s.size≤1000000:=(by have:=RS.num_s ra 4; rw [hc1] at this; dsimp only at this; rw [this]; exact sa);have bc:vc<4294967296:=(by have:=RS.num_lt ra 4; rw [hc1] at this; exact this);rw [hc1] at HEQ;dsimp only at HEQ;have Hc1:=Hi hc1;clear hc1;obtain ⟨vd,rd,hd1⟩ : ∃ v r',rc.num 4=(v,r'):=⟨_,_,rfl⟩;have od:rd.Ok:=(by have:=RS.num_ok oc 4; rw [hd1] at this; exact this);have sd:rd.s.size≤1000000:=(by have:=RS.num_s rc 4; rw [hd1] at this; dsimp only at this; rw [this]; exact sc);have bd:vd<4294967296:=(by have:=RS.num_lt rc 4; rw [hd1] at this; exact this);rw [hd1] at HEQ;dsimp only at HEQ;have Hd1:=Hi hd1;clear hd1;by_cases hcond:x.size<12∨(gN x 0 4=134695760∧x.size<16)
     · rw [if_pos hcond] at HEQ HX0;clear hcond;go_enter Tryz.func110,Tryz.ntmps110;(go_wp2_with fail);rw [← HXD.out];refine (qp x _).mono ?_;rintro e y0 ⟨rfl,hR0,hv0⟩;have HG0:=Hi (Nat.le_refl w.heap.size);generalize hb0:w.heap.size=b0 at *;have HG:Hid (w.heap.size≤b0):=Hi (by omega);clear HG0 hb0;have HR0:=Hi hR0;have HU0:=Hi hv0;clear hR0 hv0;(go_wp2_with fail);refine (zM b0 4 va ⟨x,0,false⟩ ra _ Ha1.out HR0.out hxs (Nat.zero_le _) (by omega)).mono ?_;rintro e y1 ⟨rfl,hR1,hv1⟩;have HR1:=Hi hR1;have HU1:=Hi (HU0.out.trans hv1 (fun k hk => .inr (by simp at hk; have:=HG.out; omega)));clear hR1 hv1 HR0 HU0;(go_wp2_with fail);refine (zM b0 4 vc ra rc _ Hc1.out HR1.out sa oa (by omega)).mono ?_;rintro e y2 ⟨rfl,hR2,hv2⟩;have HR2:=Hi hR2;have HU2:=Hi (HU1.out.trans hv2 (fun k hk => .inr (by simp at hk; have:=HG.out; omega)));clear hR2 hv2 HR1 HU1;(go_wp2_with fail);refine (zM b0 4 vd rc rd _ Hd1.out HR2.out sc oc (by omega)).mono ?_;rintro e y3 ⟨rfl,hR3,hv3⟩;have HR3:=Hi hR3;have HU3:=Hi (HU2.out.trans hv3 (fun k hk => .inr (by simp at hk; have:=HG.out; omega)));clear hR3 hv3 HR2 HU2;(go_wp2_with fail);refine (xP b0 _ _ HR3.out).mono ?_;rintro e y9 ⟨rfl,rfl⟩;rw [HEQ.out];go_wp2;(try simp only [Exit.inBlock,Exit.then]); refine bodyPost_ret (yd rfl _ _ _) rfl ⟨?_,HU3.out⟩
       rw [HV.out,HX0.out]; rfl
     · rw [if_neg hcond] at HEQ;clear hcond HX0;have HE:=HEQ.out;clear HEQ;generalize xX x=TX at *;obtain ⟨t1,t2,t3,t4,t5⟩:=TX;dsimp only at HE;obtain ⟨he,rfl⟩:=HE;simp only [Prod.mk.injEq] at he;obtain ⟨e1,e2,e3,e4⟩:=he;subst e1 e2 e3;have HB4:Hid (rd.bad=false):=Hi (by rw [e4]);have HP4:Hid (rd.p=t4):=Hi (by rw [e4]);clear e4;go_enter Tryz.func110,Tryz.ntmps110;(go_wp2_with fail);rw [← HXD.out];refine (qp x _).mono ?_;rintro e y0 ⟨rfl,hR0,hv0⟩;have HG0:=Hi (Nat.le_refl w.heap.size);generalize hb0:w.heap.size=b0 at *;have HG:Hid (w.heap.size≤b0):=Hi (by omega);clear HG0 hb0;have HR0:=Hi hR0;have HU0:=Hi hv0;clear hR0 hv0;(go_wp2_with fail);refine (zM b0 4 va ⟨x,0,false⟩ ra _ Ha1.out HR0.out hxs (Nat.zero_le _) (by omega)).mono ?_;rintro e y1 ⟨rfl,hR1,hv1⟩;have HR1:=Hi hR1;have HU1:=Hi (HU0.out.trans hv1 (fun k hk => .inr (by simp at hk; have:=HG.out; omega)));clear hR1 hv1 HR0 HU0;(go_wp2_with fail);refine (zM b0 4 vc ra rc _ Hc1.out HR1.out sa oa (by omega)).mono ?_;rintro e y2 ⟨rfl,hR2,hv2⟩;have HR2:=Hi hR2;have HU2:=Hi (HU1.out.trans hv2 (fun k hk => .inr (by simp at hk; have:=HG.out; omega)));clear hR2 hv2 HR1 HU1;(go_wp2_with fail);refine (zM b0 4 vd rc rd _ Hd1.out HR2.out sc oc (by omega)).mono ?_;rintro e y3 ⟨rfl,hR3,hv3⟩;have HR3:=Hi hR3;have HU3:=Hi (HU2.out.trans hv3 (fun k hk => .inr (by simp at hk; have:=HG.out; omega)));clear hR3 hv3 HR2 HU2;(go_wp2_with fail);refine (xP b0 _ _ HR3.out).mono ?_;rintro e y9 ⟨rfl,rfl⟩;rw [HB4.out];(go_wp2_with fail);refine (Qo b0 _ _ HR3.out).mono ?_;rintro e y10 ⟨rfl,rfl⟩;rw [HP4.out];go_wp2;(try simp only [Exit.inBlock,Exit.then]); refine bodyPost_ret (yd rfl _ _ _) rfl ⟨?_,HU3.out⟩
       rw [HV.out]; rfl
theorem zfb (s:ByteArray) (h r:RecD) (f:Int) (b:Bool) (w:World) (hs:s.size≤1000000) (hf:0≤f∧f≤4000000000) (hl:0≤r.l∧r.l<2147483648) :
 Calls Tryz.prog 60 #[.string s,h.v,r.v,.int .i64 f,.bool b] w fun e w'=>e = .returned (.tuple #[.int .i64 ((qI s h r f b).1:Nat),.int .i64 ((qI s h r f b).2:Nat)])∧Upd [] w w':=by
 have HTL:=Hi (fun w=>zhr s (f+r.l) w hs);obtain ⟨p,m,sum,l,wh,k,md,t,pos⟩:=h;obtain ⟨p2,m2,sum2,l2,wh2,k2,md2,t2,pos2⟩:=r;dsimp only at hl HTL;have hw1:IntKind.i64.wrap (f+l2)=f+l2:=IntWalk.i64_in _ (by omega);have HT:Hid (qI s ⟨p,m,sum,l,wh,k,md,t,pos⟩ ⟨p2,m2,sum2,l2,wh2,k2,md2,t2,pos2⟩ f b=if b=true then (if (xm s (f+l2)).2.2.2.2=false then (0,3)
  else if (xm s (f+l2)).1≠sum2∨((xm s (f+l2)).2.1:Int)≠l2∨((xm s (f+l2)).2.2.1:Int)≠wh2 then (0,2) else ((xm s (f+l2)).2.2.2.1,0)) else if sum≠sum2∨l≠l2∨wh≠wh2 then (0,2) else (0,0)):=Hi rfl
 generalize qI s ⟨p,m,sum,l,wh,k,md,t,pos⟩ ⟨p2,m2,sum2,l2,wh2,k2,md2,t2,pos2⟩ f b=TP at *;generalize xm s (f+l2)=X at *;obtain ⟨x1,x2,x3,x4,x5⟩:=X;unfold zdy at HTL;dsimp only at HTL;unfold RecD.v;dsimp only;have HA:=Hi ((Blk.new w [.string p,.int .i64 m,.int .u32 (sum:Nat),.int .i64 l,.int .i64 wh,.int .i64 k,.int .i64 md,.int .u32 (t:Nat),.int .i64 pos] 26).alloc (.cells #[.string p2,.int .i64 m2,.int .u32 (sum2:Nat),.int .i64 l2,.int .i64 wh2,.int .i64 k2,.int .i64 md2,.int .u32 (t2:Nat),.int .i64 pos2] 26));have HB:Hid (Blk ((w.alloc (.cells #[.string p,.int .i64 m,.int .u32 (sum:Nat),.int .i64 l,.int .i64 wh,.int .i64 k,.int .i64 md,.int .u32 (t:Nat),.int .i64 pos] 26)).alloc (.cells #[.string p2,.int .i64 m2,.int .u32 (sum2:Nat),.int .i64 l2,.int .i64 wh2,.int .i64 k2,.int .i64 md2,.int .u32 (t2:Nat),.int .i64 pos2] 26)) (w.heap.size+1) [.string p2,.int .i64 m2,.int .u32 (sum2:Nat),.int .i64 l2,.int .i64 wh2,.int .i64 k2,.int .i64 md2,.int .u32 (t2:Nat),.int .i64 pos2] 26):=Hi (by
  have h:=Blk.new (w.alloc (.cells #[.string p,.int .i64 m,.int .u32 (sum:Nat),.int .i64 l,.int .i64 wh,.int .i64 k,.int .i64 md,.int .u32 (t:Nat),.int .i64 pos] 26)) [.string p2,.int .i64 m2,.int .u32 (sum2:Nat),.int .i64 l2,.int .i64 wh2,.int .i64 k2,.int .i64 md2,.int .u32 (t2:Nat),.int .i64 pos2] 26;simpa using h)
 have HU:=Hi (((Upd.refl [] w).alloc (.cells #[.string p,.int .i64 m,.int .u32 (sum:Nat),.int .i64 l,.int .i64 wh,.int .i64 k,.int .i64 md,.int .u32 (t:Nat),.int .i64 pos] 26)).alloc (.cells #[.string p2,.int .i64 m2,.int .u32 (sum2:Nat),.int .i64 l2,.int .i64 wh2,.int .i64 k2,.int .i64 md2,.int .u32 (t2:Nat),.int .i64 pos2] 26));go_enter Tryz.func60,Tryz.ntmps60;go_upto_region 1 with fail
 change Code.wp _ _ _ _ ((w.alloc (.cells #[.string p,.int .i64 m,.int .u32 (sum:Nat),.int .i64 l,.int .i64 wh,.int .i64 k,.int .i64 md,.int .u32 (t:Nat),.int .i64 pos] 26)).alloc (.cells #[.string p2,.int .i64 m2,.int .u32 (sum2:Nat),.int .i64 l2,.int .i64 wh2,.int .i64 k2,.int .i64 md2,.int .u32 (t2:Nat),.int .i64 pos2] 26));generalize (w.alloc (.cells #[.string p,.int .i64 m,.int .u32 (sum:Nat),.int .i64 l,.int .i64 wh,.int .i64 k,.int .i64 md,.int .u32 (t:Nat),.int .i64 pos] 26)).alloc (.cells #[.string p2,.int .i64 m2,.int .u32 (sum2:Nat),.int .i64 l2,.int .i64 wh2,.int .i64 k2,.int .i64 md2,.int .u32 (t2:Nat),.int .i64 pos2] 26)=w1 at *;obtain ⟨g,hg⟩ : ∃ g,w.heap.size=g:=⟨_,rfl⟩;obtain ⟨c,hc⟩ : ∃ c,g+1=c:=⟨_,rfl⟩;rw [hg] at HA HB ⊢;rw [hc] at HB ⊢;have hbc:g≠c:=by omega
 have HW:=Hi (show w.heap.size≤g by omega);clear hg hc;cases b with
 | false =>
   have HT:=Hi (HT.out.trans (if_neg (by simp)));have rA:=HB.out.all;have r3:=HB.out.cell 3 rfl;have aA:=HA.out.all;by_cases h1:sum=sum2
   · have e1:(((sum:Nat):Int) != ((sum2:Nat):Int))=false:=(by rw [bne_eq_false_iff_eq]; omega);by_cases h2:(l:Int)=l2
     · have e2:((l:Int) != l2)=false:=(by rw [bne_eq_false_iff_eq]; exact h2);by_cases h3:(wh:Int)=wh2
       · have e3:((wh:Int) != wh2)=false:=(by rw [bne_eq_false_iff_eq]; exact h3);have HV:=Hi (HT.out.trans (if_neg (by simp [h1,h2,h3])));clear h1 h2 h3;go_wp2;go_returns;exact ⟨by rw [HV.out]; rfl,HU.out⟩
       · have e3:((wh:Int) != wh2)=true:=(by rw [bne_iff_ne]; exact h3);have HV:=Hi (HT.out.trans (if_pos (.inr (.inr h3))));clear h1 h2 h3;go_wp2;go_returns;exact ⟨by rw [HV.out]; rfl,HU.out⟩
     · have e2:((l:Int) != l2)=true:=(by rw [bne_iff_ne]; exact h2);have HV:=Hi (HT.out.trans (if_pos (.inr (.inl h2))));clear h1 h2;go_wp2;go_returns;exact ⟨by rw [HV.out]; rfl,HU.out⟩
   · have e1:(((sum:Nat):Int) != ((sum2:Nat):Int))=true:=(by rw [bne_iff_ne]; omega);have HV:=Hi (HT.out.trans (if_pos (.inl h1)));clear h1;go_wp2;go_returns;exact ⟨by rw [HV.out]; rfl,HU.out⟩
 | true =>
   have HT:=Hi (HT.out.trans (if_pos rfl));have r3:=HB.out.cell 3 rfl;go_wp2_with fail
   refine (HTL.out _).mono ?_;rintro e w2 ⟨rfl,hu2⟩;have HA2:=Hi (HA.out.upd hu2 (by simp));have HB2:=Hi (HB.out.upd hu2 (by simp));have HU2:=Hi (HU.out.then hu2);clear r3 hu2 HA HB HU HTL;cases x5 with
   | false =>
     have HV:=Hi (HT.out.trans (if_pos rfl));go_wp2;go_returns;exact ⟨by rw [HV.out]; rfl,HU2.out⟩
   | true =>
     have HT:=Hi (HT.out.trans (if_neg (by simp)));have HA3:=Hi (((HA2.out.set 2 (.int .u32 (x1:Nat))).set 3 (.int .i64 (x2:Nat))).set 4 (.int .i64 (x3:Nat)));have HU3:=Hi (((HU2.out.setCell (p:=⟨g,2,none⟩) (.inr HW.out) (.int .u32 (x1:Nat))).setCell (p:=⟨g,3,none⟩) (.inr HW.out) (.int .i64 (x2:Nat))).setCell (p:=⟨g,4,none⟩) (.inr HW.out) (.int .i64 (x3:Nat)));have HB3:=Hi (((HB2.out.setFar (a:=⟨g,2,none⟩) (.int .u32 (x1:Nat)) (Ne.symm hbc)).setFar (a:=⟨g,3,none⟩) (.int .i64 (x2:Nat)) (Ne.symm hbc)).setFar (a:=⟨g,4,none⟩) (.int .i64 (x3:Nat)) (Ne.symm hbc));have aA:=HA2.out.all;have fA:=HA2.out.frz;(go_upto_region 7 with fail);generalize ((w2.setCell ⟨g,2,none⟩ (.int .u32 (x1:Nat))).setCell ⟨g,3,none⟩ (.int .i64 (x2:Nat))).setCell ⟨g,4,none⟩ (.int .i64 (x3:Nat))=w3 at *;clear aA fA;have aA:=HA3.out.all;have rA:=HB3.out.all;have r3:=HB3.out.cell 3 rfl;by_cases h1:x1=sum2
     · have e1:(((x1:Nat):Int) != ((sum2:Nat):Int))=false:=(by rw [bne_eq_false_iff_eq]; omega);by_cases h2:(((x2:Nat):Int):Int)=l2
       · have e2:((((x2:Nat):Int):Int) != l2)=false:=(by rw [bne_eq_false_iff_eq]; exact h2);by_cases h3:(((x3:Nat):Int):Int)=wh2
         · have e3:((((x3:Nat):Int):Int) != wh2)=false:=(by rw [bne_eq_false_iff_eq]; exact h3);have HV:=Hi (HT.out.trans (if_neg (by simp [h1,h2,h3])));clear h1 h2 h3;go_wp2;go_returns;exact ⟨by rw [HV.out]; rfl,HU3.out⟩
         · have e3:((((x3:Nat):Int):Int) != wh2)=true:=(by rw [bne_iff_ne]; exact h3);have HV:=Hi (HT.out.trans (if_pos (.inr (.inr h3))));clear h1 h2 h3;go_wp2;go_returns;exact ⟨by rw [HV.out]; rfl,HU3.out⟩
       · have e2:((((x2:Nat):Int):Int) != l2)=true:=(by rw [bne_iff_ne]; exact h2);have HV:=Hi (HT.out.trans (if_pos (.inr (.inl h2))));clear h1 h2;go_wp2;go_returns;exact ⟨by rw [HV.out]; rfl,HU3.out⟩
     · have e1:(((x1:Nat):Int) != ((sum2:Nat):Int))=true:=(by rw [bne_iff_ne]; omega);have HV:=Hi (HT.out.trans (if_pos (.inl h1)));clear h1;go_wp2;go_returns;exact ⟨by rw [HV.out]; rfl,HU3.out⟩
theorem zgm (s b:Nat) (w:World) (hs:s<4294967296) (hb:b<2):Calls Tryz.prog 238 #[.int .u32 (s:Nat),.int .u32 (b:Nat)] w fun e w'=>e = .returned (.int .u32 (qP s b:Nat))∧w=w':=by
 have hx:=Xb (s/2) 3988292384 (by omega) (by omega);have e1:((s/2:Nat):Int)=(s:Int)/2:=by omega
 rw [e1] at hx;have HX:=Hi hx;clear hx e1;by_cases h:(s+b)%2=1
 · have HB:=Hi (show qP s b=(s/2) ^^^ 3988292384 from by unfold qP; rw [if_pos h]);have t1:(((s:Int)+(b:Int))%4294967296%2==1)=true:=(by simp; omega);clear h;go_enter Tryz.func238,Tryz.ntmps238;go_wp2;go_returns;exact ⟨by rw [HB.out]; exact congrArg (fun z=>Ending.returned (.int .u32 z)) HX.out,rfl⟩
 · have HB:=Hi (show qP s b=s/2 from by unfold qP; rw [if_neg h]);have t1:(((s:Int)+(b:Int))%4294967296%2==1)=false:=(by simp; omega);clear h;go_enter Tryz.func238,Tryz.ntmps238;go_wp2;go_returns;exact ⟨by rw [HB.out]; exact congrArg (fun z=>Ending.returned (.int .u32 z)) (show (s:Int)/2=((s/2:Nat):Int) by omega),rfl⟩
theorem zfl {s b:Nat} (h:s<4294967296):qP s b<4294967296:=by
 unfold qP;split
 · exact Nat.xor_lt_two_pow (n:=32) (by omega) (by omega)
 · omega
theorem zfs (s b:Nat) (w:World) (hs:s<4294967296) (hb:b<256):Calls Tryz.prog 192 #[.int .u32 (s:Nat),.int .u8 (b:Nat)] w fun e w'=>e = .returned (.int .u32 (qg s b:Nat))∧w=w':=by
 have H0:=Hi (show qg s b=zes 8 s b from (zd8 8 s b hb).symm);generalize qg s b=R at *;go_enter Tryz.func192,Tryz.ntmps192;go_wp2;go_loopg [0,5,6] 8 (fun g s0 s5 s6 wr => ∃ i x n,i≤8∧g=8-i∧s6 = .int .i64 (i:Nat)∧s0 = .int .u32 (x:Nat)∧s5 = .int .u32 (n:Nat)∧x<4294967296∧n<256∧Hid (R=zes (8-i) x n)∧w=wr)
 case atStart=>exact ⟨0,s,b,by omega,rfl,rfl,rfl,rfl,hs,hb,H0,rfl⟩
 case round =>
  obtain ⟨i,x,n,hi,rfl,rfl,rfl,rfl,hx,hn,H,rfl⟩:=hrel;by_cases hc:i<8
  · have hcz:(i:Int)<8:=(by omega);have H1:=Hi (show R=zes (8-(i+1)) (qP x (n%2)) (n/2) from by rw [H.out,show 8-i=(8-(i+1))+1 by omega]; rfl);obtain ⟨q,hq⟩ : ∃ q,q=n%2:=⟨_,rfl⟩;obtain ⟨m,hm⟩ : ∃ m,m=n/2:=⟨_,rfl⟩;rw [← hq,← hm] at H1;have z1:(n:Int)%2=(q:Int):=(by omega);have z2:(n:Int)/2=(m:Int):=(by omega);have hq2:q<2:=(by omega);have hm2:m<256:=(by omega);have HB:=Hi (zgm x q w hx hq2);have hy:=Hi (zfl (b:=q) hx);clear hq hm H;generalize qP x q=y at *;(go_wp2_with fail);refine HB.out.mono ?_;rintro e w1 ⟨rfl,rfl⟩;go_wp2;go_roundg (8-(i+1))
    · exact ⟨i+1,y,m,by omega,rfl,by first | rfl | go_num,rfl,rfl,hy.out,hm2,H1,rfl⟩
    · omega
  · have hcz : ¬ (i:Int)<8:=(by omega);have h8:i=8:=(by omega);subst h8;go_wp2;go_returns;exact ⟨by rw [H.out]; rfl,rfl⟩
theorem zel (s:Nat) (T:ByteArray) (w:World) (hs:s<4294967296) (hT:T.size≤9223372036854775807):Calls Tryz.prog 118 #[.int .u32 (s:Nat),.string T] w fun e w'=>e = .returned (.int .u32 (yX s (zf T):Nat))∧w=w':=by
 have hlen:=zi T;go_enter Tryz.func118,Tryz.ntmps118;go_wp2;go_loopg [0,5] T.size (fun g s0 s5 wr => ∃ i x,i≤T.size∧g=T.size-i∧s5 = .int .i64 (i:Nat)∧s0 = .int .u32 (x:Nat)∧x<4294967296∧Hid (x=yX s ((zf T).take i))∧w=wr)
 case atStart=>exact ⟨0,s,by omega,rfl,rfl,rfl,hs,Hi rfl,rfl⟩
 case round =>
  obtain ⟨i,x,hi,rfl,rfl,rfl,hx,H,rfl⟩:=hrel;by_cases hc:i<T.size
  · have hcz:(i:Int)<(T.size:Int):=(by omega);have hil:i<(zf T).length:=(by omega);have hb:(zf T)[i]=T[i].toNat:=xd T i hc hil;have hst:yX s ((zf T).take (i+1))=qg x T[i].toNat:=by
     rw [List.take_succ_eq_append_getElem hil,Qz,← H.out,hb]
    have hbl:T[i].toNat<256:=T[i].toNat_lt;have HS:=Hi hst;have HB:=Hi (zfs x T[i].toNat w hx hbl);have hy:=Hi (JM hx hbl);clear hst hb H;(go_wp2_with fail);refine HB.out.mono ?_;rintro e w1 ⟨rfl,rfl⟩;go_wp2;go_roundg (T.size-(i+1))
    · exact ⟨i+1,_,by omega,rfl,by first | rfl | go_num,rfl,hy.out,Hi HS.out.symm,rfl⟩
    · omega
  · have hcz : ¬ (i:Int)<(T.size:Int):=(by omega);have h8:i=T.size:=(by omega);go_wp2;go_returns;exact ⟨by rw [H.out,h8,← hlen,List.take_length]; rfl,rfl⟩
theorem zh1 (T:ByteArray) (w:World) (hT:T.size≤9223372036854775807):Calls Tryz.prog 66 #[.string T] w fun e w'=>e = .returned (.int .u32 (xI T:Nat))∧w=w':=by
 have HF:=Hi (zel 4294967295 T w (by omega) hT);have HO:=Hi (show xI T=4294967295-yX 4294967295 (zf T) from rfl);have hl:=JU (zf T) (s:=4294967295) (by omega) (xf T);generalize yX 4294967295 (zf T)=x at *;go_enter Tryz.func66,Tryz.ntmps66;go_wp2_with fail
 refine HF.out.mono ?_;rintro e w1 ⟨rfl,rfl⟩;go_wp2;go_returns;exact ⟨by rw [HO.out]; exact congrArg (fun z=>Ending.returned (.int .u32 z)) (by omega),rfl⟩
def jV (l:List Nat):List Value:=l.map fun x:Nat => .int .u32 (x:Int)
theorem zbA (l:List Nat) : ∀ v∈jV l,v.oneCell'=true:=by intro v hv; obtain ⟨x,_,rfl⟩:=List.mem_map.1 hv; rfl
theorem ZI (l:List Nat):(jV l).length=l.length:=by simp [jV]
theorem zgd (l:List Nat) (i x:Nat):(jV l).set i (.int .u32 (x:Nat))=jV (l.set i x):=by simp [jV]
theorem zgk {l:List Nat} {i x:Nat} (h:l[i]? =some x):(jV l)[i]? =some (.int .u32 (x:Int)):=by simp [jV,h]
def ZY:List Nat:=(List.range 256).map (jT 8)
theorem Kv:Tryz.zeroCells214=(jV (List.replicate 256 0)).toArray:=by kernel_rfl
theorem Xf:(Tryz.prog.info? 214).map (·.size)=some 256:=by kernel_rfl
theorem Xp:ZY.length=256:=by simp [ZY]
theorem za8 {i:Nat} (h:i<256):ZY[i]? =some (jT 8 i):=by simp [ZY,h]
theorem zfh (w:World):Calls Tryz.prog 160 #[] w fun e w'=>e = .returned (.agg (jV ZY).toArray)∧Upd [] w w':=by
 go_enter Tryz.func160,Tryz.ntmps160;go_wp2;have hB0:=Blk.new w (jV (List.replicate 256 0)) 214;have hU0:Upd [] w (w.alloc (.cells (jV (List.replicate 256 0)).toArray 214)):=(Upd.refl [] w).alloc _;rw [Kv];generalize w.alloc (.cells (jV (List.replicate 256 0)).toArray 214)=w0 at *;have HW:=Hi (Nat.le_refl w.heap.size);obtain ⟨b0,hb0⟩ : ∃ b0,w.heap.size=b0:=⟨_,rfl⟩;rw [hb0] at hB0 ⊢;have HB:=Hi (show w.heap.size≤b0 by omega);clear hb0 HW;go_loopg [3] 256 (fun g s3 wr => ∃ i L,i≤256∧g=256-i∧s3 = .int .i64 (i:Nat)∧Blk wr b0 (jV L) 214∧L.length=256∧Hid (∀ j,j<i→L[j]? =some (jT 8 j))∧Upd [] w wr)
 case atStart=>exact ⟨0,List.replicate 256 0,by omega,rfl,rfl,hB0,by simp,Hi (fun j h=>by omega),hU0⟩
 case round =>
  obtain ⟨i,L,hi,rfl,rfl,hB,hL,HJ,hU⟩:=hrel;clear hB0 hU0;by_cases hc:i<256
  · have hcz:(i:Int)<256:=(by omega);have e0:IntKind.u32.wrap (i:Int)=(i:Int):=kQ i (by omega);go_wp2;go_loopg [2,8] 8 (fun g s2 s8 wx => ∃ k x,k≤8∧g=8-k∧s8 = .int .i64 (k:Nat)∧s2 = .int .u32 (x:Nat)∧x<4294967296∧Hid (jT 8 i=jT (8-k) x)∧wr=wx)
    case atStart=>exact ⟨0,i,by omega,rfl,rfl,by first | rfl | (congr 1; omega),by omega,Hi rfl,rfl⟩
    case round =>
     obtain ⟨k,x,hk,rfl,rfl,rfl,hx,HX,rfl⟩:=hrel;by_cases hc2:k<8
     · have hkz:(k:Int)<8:=(by omega);obtain ⟨p,hp⟩ : ∃ p,p=x%2:=⟨_,rfl⟩;have ha:bits .and .u32 (x:Int) 1=(p:Int):=by
        have h:=zdM x 1 hx (by omega);rw [Nat.and_one_is_mod,← hp] at h;exact h
       have hst:jT (8-k) x=jT (8-(k+1)) (yN x):=(by rw [show 8-k=(8-(k+1))+1 by omega]; rfl);have HST:=Hi hst;have hlt:=Hi (XI hx);have hxx:=Xb (x/2) 3988292384 (by omega) (by omega);rw [show ((x/2:Nat):Int)=(x:Int)/2 by omega] at hxx;clear hst;by_cases hp1:p=1
       · have t1:((p:Int)==1)=true:=(by simp; omega);have t1':(p==1)=true:=(by simp [hp1]);have HC:=Hi (show yN x=(x/2) ^^^ 3988292384 from by unfold yN; rw [if_pos (by omega)]);have HXX:=Hi hxx;clear hp hxx hp1;go_wp2;go_roundg (8-(k+1))
         · exact ⟨k+1,yN x,by omega,rfl,by first | rfl | go_num,by rw [HC.out,← HXX.out]; rfl,hlt.out,Hi (by rw [HX.out,HST.out]),rfl⟩
         · omega
       · have t1:((p:Int)==1)=false:=(by simp; omega);have t1':(p==1)=false:=(by simp [hp1]);have HC:=Hi (show yN x=x/2 from by unfold yN; rw [if_neg (by omega)]);clear hp hxx hp1;go_wp2;go_roundg (8-(k+1))
         · exact ⟨k+1,yN x,by omega,rfl,by first | rfl | go_num,by rw [HC.out]; first | rfl | (congr 1; done) | (congr 1; omega),hlt.out,Hi (by rw [HX.out,HST.out]),rfl⟩
         · omega
     · have hkz : ¬ (k:Int)<8:=(by omega);have hk8:k=8:=(by omega);subst hk8;have HX2:=Hi (show jT 8 i=x from HX.out);have c1:=hB.cell i (v := .int .u32 ((L[i]'(by omega):Nat):Int)) (by rw [jV]; simp [hL,hc]);have f1:=hB.frz i;have hi0:(0:Int)≤(i:Int):=(by omega);generalize L[i]'(by omega)=old at *;go_wp2;go_roundg (256-(i+1))
       · refine ⟨i+1,L.set i x,by omega,rfl,by first | rfl | go_num,by rw [← zgd]; exact hB.set i _,by simpa using hL,Hi ?_,hU.setCell (.inr (by exact HB.out)) _⟩;intro j hj;by_cases hji:j=i
         · subst hji; rw [List.getElem?_set_self (by omega),HX2.out]
         · rw [List.getElem?_set_ne (by omega)]; exact HJ.out j (by omega)
       · omega
  · have hcz : ¬ (i:Int)<256:=(by omega);have h8:i=256:=(by omega);subst h8;have hLT:L=ZY:=List.ext_getElem? (fun j=>by
     by_cases hj:j<256
     · rw [HJ.out j hj,za8 hj]
     · rw [List.getElem?_eq_none (by omega),List.getElem?_eq_none (by rw [Xp]; omega)])
    subst hLT;have HLL:=Hi (ZI ZY);have HTL:=Hi Xp;clear HJ hL;generalize hTL:ZY=L at *;have HTT:=Hi hTL;clear hTL;go_wp2_with (first
     | (refine zx rfl 214 _ rfl b0 rfl 214 (jV L) hB _ Tryz.underlying214 rfl (by rw [HLL.out,HTL.out]; exact Xf) ?_)
     | (refine zv rfl 214 _ _ rfl b0 rfl (jV L) rfl 214 _ hB (by rw [HLL.out,HTL.out]; exact Xf) rfl (zbA _) ?_; intro w2 hB2 hU2))
    refine bodyPost_ret (results_cell_row rfl _ _ b0 214 _ (0,0) _ (by simp) hB2 Tryz.underlying214 rfl (by rw [Xf]; simp [HLL.out,HTL.out])) (by simp) ⟨by rw [HTT.out],?_⟩;exact hU.trans hU2 (fun k hk => .inr (by have:=HB.out; simp at hk; omega))
end Go.Proofs.YtfkenhihcmmgkaaGreatDoor
