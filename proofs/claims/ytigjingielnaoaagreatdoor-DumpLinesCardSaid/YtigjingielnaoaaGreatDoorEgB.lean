/- Package ending: Read: its walk. -/
import Derived.Test.YtigjingielnaoaaGreatDoorEgA
import Derived.Test.YtigjingielnaoaaGreatDoorQAJ
set_option linter.unusedVariables false
set_option linter.unusedSimpArgs false
set_option linter.unusedSectionVars false
namespace Go.Proofs.YtigjingielnaoaaGreatDoor
open Go.RowKit
theorem xW {fn:Func} {p t:Tmp} (h:fn.results = #[.cell p 69,.tmp t]) (tmps:Array Value) (w:World) (g:Nat) (c0 c1 c2 c3:Value) (hp:tmps.getD p undef = .pointer (some ⟨g,0,none⟩)) (hB:Blk w g [c0,c1,c2,c3] 69) :
 (results fn tmps).run Tryz.prog w = .ok (.tuple #[.agg #[c0,c1,c2,c3],tmps.getD t undef]) w:=by
 have h0:=hB.cell 0 rfl
 have h1:=hB.cell 1 rfl
 have h2:=hB.cell 2 rfl
 have h3:=hB.cell 3 rfl
 have hp2:tmps[p]?.getD undef = .pointer (some ⟨g,0,none⟩):=by rw [← hp]; simp
 simp [results,h,go_sem,hp2,h0,h1,h2,h3]
theorem zcm (x:ByteArray) (v1 v2 v3 v4 v5 v6 v7:Nat) (r1 r2 r3 r4 r5 r6 r7:RS) (h1:(⟨x,0,false⟩:RS).num 4=(v1,r1)) (h2:r1.num 4=(v2,r2)) (h3:r2.num 2=(v3,r3)) (h4:r3.num 2=(v4,r4)) (h5:r4.num 4=(v5,r5)) (h6:r5.num 4=(v6,r6)) (h7:r6.num 2=(v7,r7)) :
 egX x=if v1≠101010256∨v2≠0∨r7.bad=true∨v4≠v3∨zH ⟨v3,v5,v6,v7⟩=false∨(r7.s.size:Int)-(r7.p:Nat)≠(v7:Nat) then (EgD.no,false) else (⟨v3,v5,v6,v7⟩,true):=by
 by_cases h:22≤x.size
 · rw [zu 4 (by omega)] at h1
   obtain ⟨rfl,rfl⟩:=Prod.mk.inj h1
   rw [zu 4 (by omega)] at h2
   obtain ⟨rfl,rfl⟩:=Prod.mk.inj h2
   rw [zu 2 (by omega)] at h3
   obtain ⟨rfl,rfl⟩:=Prod.mk.inj h3
   rw [zu 2 (by omega)] at h4
   obtain ⟨rfl,rfl⟩:=Prod.mk.inj h4
   rw [zu 4 (by omega)] at h5
   obtain ⟨rfl,rfl⟩:=Prod.mk.inj h5
   rw [zu 4 (by omega)] at h6
   obtain ⟨rfl,rfl⟩:=Prod.mk.inj h6
   rw [zu 2 (by omega)] at h7
   obtain ⟨rfl,rfl⟩:=Prod.mk.inj h7
   show egX x=if gN x 0 4≠101010256∨gN x 4 4≠0∨false=true∨gN x 10 2≠gN x 8 2∨zH (vD x)=false∨(x.size:Int)-(22:Nat)≠(gN x 20 2:Nat) then (EgD.no,false) else (vD x,true)
   unfold egX
   have e:(x.size<22∨gN x 0 4≠101010256∨gN x 4 4≠0∨gN x 8 2≠gN x 10 2∨zH (vD x)=false∨x.size≠22+gN x 20 2)↔(gN x 0 4≠101010256∨gN x 4 4≠0∨false=true∨gN x 10 2≠gN x 8 2∨zH (vD x)=false∨(x.size:Int)-(22:Nat)≠(gN x 20 2:Nat)):=by
    cases zH (vD x)
    · simp
    · simp only [Bool.true_eq_false,Bool.false_eq_true,false_or]
      omega
   by_cases hc:(x.size<22∨gN x 0 4≠101010256∨gN x 4 4≠0∨gN x 8 2≠gN x 10 2∨zH (vD x)=false∨x.size≠22+gN x 20 2)
   · rw [if_pos hc,if_pos (e.1 hc)]
   · rw [if_neg hc,if_neg (fun k=>hc (e.2 k))]
 · have hb:r7.bad=true:=by
    cases hb:r7.bad with
    | true=>rfl
    | false =>
      exfalso
      have o0:RS.Ok ⟨x,0,false⟩:=Nat.zero_le _
      have o1:r1.Ok:=by have:=RS.num_ok o0 4; rw [h1] at this; exact this
      have o2:r2.Ok:=by have:=RS.num_ok o1 4; rw [h2] at this; exact this
      have o3:r3.Ok:=by have:=RS.num_ok o2 2; rw [h3] at this; exact this
      have o4:r4.Ok:=by have:=RS.num_ok o3 2; rw [h4] at this; exact this
      have o5:r5.Ok:=by have:=RS.num_ok o4 4; rw [h5] at this; exact this
      have o6:r6.Ok:=by have:=RS.num_ok o5 4; rw [h6] at this; exact this
      obtain ⟨b6,p6,e7⟩:=zI r6 2 (by rw [h7]; exact hb) o6
      obtain ⟨b5,p5,e6⟩:=zI r5 4 (by rw [h6]; exact b6) o5
      obtain ⟨b4,p4,e5⟩:=zI r4 4 (by rw [h5]; exact b5) o4
      obtain ⟨b3,p3,e4⟩:=zI r3 2 (by rw [h4]; exact b4) o3
      obtain ⟨b2,p2,e3⟩:=zI r2 2 (by rw [h3]; exact b3) o2
      obtain ⟨b1,p1,e2⟩:=zI r1 4 (by rw [h2]; exact b2) o1
      obtain ⟨b0,p0,e1⟩:=zI ⟨x,0,false⟩ 4 (by rw [h1]; exact b1) o0
      have q1:=(Prod.mk.inj (h1.symm.trans e1)).2
      have q2:=(Prod.mk.inj (h2.symm.trans e2)).2
      have q3:=(Prod.mk.inj (h3.symm.trans e3)).2
      have q4:=(Prod.mk.inj (h4.symm.trans e4)).2
      have q5:=(Prod.mk.inj (h5.symm.trans e5)).2
      have q6:=(Prod.mk.inj (h6.symm.trans e6)).2
      subst q1
      subst q2
      subst q3
      subst q4
      subst q5
      subst q6
      dsimp only at p6
      omega
   rw [if_pos (.inr (.inr (.inl hb)))]
   unfold egX
   rw [if_pos (.inl (by omega))]
set_option maxRecDepth 100000 in
theorem qn (bx rb k v:Nat) (r r':RS) (w:World) (h:r.num k=(v,r')) (hX:Blk w bx [.pointer (some ⟨rb,0,none⟩)] 127) (hB:Rdr w rb r) (hs:r.s.size≤1000000) (hp:r.p≤r.s.size) (hk:k≤4) :
 Calls Tryz.prog 156 #[.int .i64 (k:Nat),.pointer (some ⟨bx,0,none⟩)] w fun e w'=>e = .returned (.int .i64 (v:Nat))∧Rdr w' rb r'∧Upd [rb] w w':=by
 have HN:=Lib.hid (zs rb k v r r' w h hB hs hp (by omega))
 have hv:v<4294967296:=by
  have h1:=RS.num_lt r k
  rw [h] at h1
  exact Nat.lt_of_lt_of_le h1 (Nat.le_trans (Nat.pow_le_pow_right (by omega) hk) (by decide))
 have c0:=hX.cell 0 rfl
 clear hX hB h
 go_enter Tryz.func156,Tryz.ntmps156
 go_wp2_with fail
 refine HN.out.mono ?_
 rintro e w2 ⟨rfl,hr,hu⟩
 have HR:=Lib.hid hr
 have HU:=Lib.hid hu
 clear hr hu
 go_wp2
 go_returns
 exact ⟨by first | rfl | go_num,HR.out,HU.out⟩
set_option maxRecDepth 100000 in
set_option maxHeartbeats 6400000 in
theorem KY (s:ByteArray) (a:Int) (w:World) (hs:s.size≤1000000) :
 Calls Tryz.prog 115 #[.string s,.int .i64 a] w fun e w'=>e = .returned (.tuple #[(egP s a).1.v,.bool (egP s a).2])∧Upd [] w w':=by
 have HP:Hid (egP s a=if a<0∨(s.size:Int)<a then (EgD.no,false) else egX (s.extract a.toNat s.size)):=Lib.hid rfl
 generalize egP s a=EP at *
 have HB:=Lib.hid (Blk.new w [.int .i64 0,.int .i64 0,.int .i64 0,.int .i64 0] 69)
 have HU:=Lib.hid ((Upd.refl [] w).alloc (.cells #[.int .i64 0,.int .i64 0,.int .i64 0,.int .i64 0] 69))
 go_enter Tryz.func115,Tryz.ntmps115
 go_upto_region 1 with fail
 change Code.wp _ _ _ _ (w.alloc (.cells #[.int .i64 0,.int .i64 0,.int .i64 0,.int .i64 0] 69))
 generalize w.alloc (.cells #[.int .i64 0,.int .i64 0,.int .i64 0,.int .i64 0] 69)=w1 at *
 generalize hb:w.heap.size=b at *
 have HWB:=Lib.hid (show w.heap.size≤b by omega)
 clear hb
 by_cases h1:a<0
 · have HV:=Lib.hid (HP.out.trans (if_pos (.inl h1)))
   have kA:=HB.out.all
   have fA:=HB.out.frz
   go_wp2
   exact bodyPost_ret (xW rfl _ _ b _ _ _ _ rfl (Blk.set4 HB.out _ _ _ _)) rfl ⟨by rw [HV.out]; rfl,Upd.set4 HU.out (.inr HWB.out) _ _ _ _⟩
 by_cases h2:(s.size:Int)<a
 · have HV:=Lib.hid (HP.out.trans (if_pos (.inr h2)))
   have kA:=HB.out.all
   have fA:=HB.out.frz
   go_wp2
   exact bodyPost_ret (xW rfl _ _ b _ _ _ _ rfl (Blk.set4 HB.out _ _ _ _)) rfl ⟨by rw [HV.out]; rfl,Upd.set4 HU.out (.inr HWB.out) _ _ _ _⟩
 have h4:0≤a:=by omega
 have h5:a≤(s.size:Int):=by omega
 obtain ⟨x,hx⟩ : ∃ x,s.extract a.toNat s.size=x:=⟨_,rfl⟩
 have HXE:=Lib.hid hx
 have hxs:x.size≤1000000:=by rw [← hx,ByteArray.size_extract]; omega
 have HX:=Lib.hid ((HP.out.trans (if_neg (by omega))).trans (by rw [hx]))
 clear HP hx
 obtain ⟨⟨v1,r1⟩,n1⟩ : ∃ p,(⟨x,0,false⟩:RS).num 4=p:=⟨_,rfl⟩
 obtain ⟨⟨v2,r2⟩,n2⟩ : ∃ p,r1.num 4=p:=⟨_,rfl⟩
 obtain ⟨⟨v3,r3⟩,n3⟩ : ∃ p,r2.num 2=p:=⟨_,rfl⟩
 obtain ⟨⟨v4,r4⟩,n4⟩ : ∃ p,r3.num 2=p:=⟨_,rfl⟩
 obtain ⟨⟨v5,r5⟩,n5⟩ : ∃ p,r4.num 4=p:=⟨_,rfl⟩
 obtain ⟨⟨v6,r6⟩,n6⟩ : ∃ p,r5.num 4=p:=⟨_,rfl⟩
 obtain ⟨⟨v7,r7⟩,n7⟩ : ∃ p,r6.num 2=p:=⟨_,rfl⟩
 have HRX:=Lib.hid (HX.out.trans (zcm x v1 v2 v3 v4 v5 v6 v7 r1 r2 r3 r4 r5 r6 r7 n1 n2 n3 n4 n5 n6 n7))
 have o0:RS.Ok ⟨x,0,false⟩:=Nat.zero_le _
 have o1:r1.Ok:=by have:=RS.num_ok o0 4; rw [n1] at this; exact this
 have o2:r2.Ok:=by have:=RS.num_ok o1 4; rw [n2] at this; exact this
 have o3:r3.Ok:=by have:=RS.num_ok o2 2; rw [n3] at this; exact this
 have o4:r4.Ok:=by have:=RS.num_ok o3 2; rw [n4] at this; exact this
 have o5:r5.Ok:=by have:=RS.num_ok o4 4; rw [n5] at this; exact this
 have o6:r6.Ok:=by have:=RS.num_ok o5 4; rw [n6] at this; exact this
 have o7:r7.Ok:=by have:=RS.num_ok o6 2; rw [n7] at this; exact this
 have s1:r1.s=x:=by have:=RS.num_s ⟨x,0,false⟩ 4; rw [n1] at this; exact this
 have s2:r2.s=x:=by have:=RS.num_s r1 4; rw [n2] at this; exact this.trans s1
 have s3:r3.s=x:=by have:=RS.num_s r2 2; rw [n3] at this; exact this.trans s2
 have s4:r4.s=x:=by have:=RS.num_s r3 2; rw [n4] at this; exact this.trans s3
 have s5:r5.s=x:=by have:=RS.num_s r4 4; rw [n5] at this; exact this.trans s4
 have s6:r6.s=x:=by have:=RS.num_s r5 4; rw [n6] at this; exact this.trans s5
 have s7:r7.s=x:=by have:=RS.num_s r6 2; rw [n7] at this; exact this.trans s6
 have N1:=Lib.hid (fun bx rb z hX hB=>(show Calls Tryz.prog 156 #[.int .i64 4,.pointer (some ⟨bx,0,none⟩)] z _ from qn bx rb 4 v1 _ r1 z n1 hX hB hxs o0 (by omega)))
 have N2:=Lib.hid (fun bx rb z hX hB=>(show Calls Tryz.prog 156 #[.int .i64 4,.pointer (some ⟨bx,0,none⟩)] z _ from qn bx rb 4 v2 r1 r2 z n2 hX hB (by rw [s1]; exact hxs) o1 (by omega)))
 have N3:=Lib.hid (fun bx rb z hX hB=>(show Calls Tryz.prog 156 #[.int .i64 2,.pointer (some ⟨bx,0,none⟩)] z _ from qn bx rb 2 v3 r2 r3 z n3 hX hB (by rw [s2]; exact hxs) o2 (by omega)))
 have N4:=Lib.hid (fun bx rb z hX hB=>(show Calls Tryz.prog 156 #[.int .i64 2,.pointer (some ⟨bx,0,none⟩)] z _ from qn bx rb 2 v4 r3 r4 z n4 hX hB (by rw [s3]; exact hxs) o3 (by omega)))
 have N5:=Lib.hid (fun bx rb z hX hB=>(show Calls Tryz.prog 156 #[.int .i64 4,.pointer (some ⟨bx,0,none⟩)] z _ from qn bx rb 4 v5 r4 r5 z n5 hX hB (by rw [s4]; exact hxs) o4 (by omega)))
 have N6:=Lib.hid (fun bx rb z hX hB=>(show Calls Tryz.prog 156 #[.int .i64 4,.pointer (some ⟨bx,0,none⟩)] z _ from qn bx rb 4 v6 r5 r6 z n6 hX hB (by rw [s5]; exact hxs) o5 (by omega)))
 have N7:=Lib.hid (fun bx rb z hX hB=>(show Calls Tryz.prog 156 #[.int .i64 2,.pointer (some ⟨bx,0,none⟩)] z _ from qn bx rb 2 v7 r6 r7 z n7 hX hB (by rw [s6]; exact hxs) o6 (by omega)))
 have HLF:=Lib.hid (fun rb z hB=>Zp rb r7 z hB (by rw [s7]; exact hxs) o7)
 have HFI:=Lib.hid (fun rb z hB=>xC rb r7 z hB)
 have HRG:=Lib.hid (fun z=>Vc ⟨v3,v5,v6,v7⟩ z)
 clear n1 n2 n3 n4 n5 n6 n7 o0 o1 o2 o3 o4 o5 o6 s1 s2 s3 s4 s5 s6 HX
 have HXE2:=HXE.out
 go_upto_region 3 with fail
 have hrb:b<w1.heap.size:=HB.out.lt
 have hrw:w.heap.size≤w1.heap.size:=HU.out.size
 go_wp2_with fail
 refine (xE x _).mono ?_
 rintro e w2 ⟨rfl,hR,hu2⟩
 have hbx:w1.heap.size<w2.heap.size:=hR.lt
 have HB1:=Lib.hid ((HB.out.upd hu2 (by simp)).alloc (.cells #[.pointer (some ⟨w1.heap.size,0,none⟩)] 127))
 have HU1:=Lib.hid ((HU.out.then hu2).alloc (.cells #[.pointer (some ⟨w1.heap.size,0,none⟩)] 127))
 have HR1:Hid (Rdr (w2.alloc (.cells #[.pointer (some ⟨w1.heap.size,0,none⟩)] 127)) w1.heap.size ⟨x,0,false⟩):=Lib.hid (hR.alloc _)
 have HX1:=Lib.hid (Blk.new w2 [.pointer (some ⟨w1.heap.size,0,none⟩)] 127)
 clear hR hu2 HB HU
 go_upto_region 4 with fail
 change Code.wp _ _ _ _ (w2.alloc (.cells #[.pointer (some ⟨w1.heap.size,0,none⟩)] 127))
 generalize w2.alloc (.cells #[.pointer (some ⟨w1.heap.size,0,none⟩)] 127)=w3 at *
 generalize w2.heap.size=bx at *
 generalize w1.heap.size=rb at *
 clear HXE2 h1 h2 h4 h5
 go_wp2_with fail
 refine (N1.out bx rb _ HX1.out HR1.out).mono ?_
 rintro e w11 ⟨rfl,hr,hu⟩
 have HB2:=Lib.hid (HB1.out.upd hu (by simp; omega))
 have HX2:=Lib.hid (HX1.out.upd hu (by simp; omega))
 have HU2:=Lib.hid (HU1.out.trans hu (fun k hk => .inr (by simp at hk; omega)))
 have HR2:=Lib.hid hr
 clear hr hu HB1 HX1 HU1 HR1 N1
 by_cases g1:v1=101010256
 rotate_left
 · have HV:=Lib.hid (HRX.out.trans (if_pos (.inl g1)))
   have HB:=HB2
   have HU:=HU2
   have e1:(((v1:Nat):Int) != 101010256)=true:=by rw [bne_iff_ne]; omega
   have kA:=HB.out.all
   have fA:=HB.out.frz
   go_wp2
   exact bodyPost_ret (xW rfl _ _ b _ _ _ _ rfl (Blk.set4 HB.out _ _ _ _)) rfl ⟨by rw [HV.out]; rfl,Upd.set4 HU.out (.inr HWB.out) _ _ _ _⟩
 have e1:(((v1:Nat):Int) != 101010256)=false:=by rw [bne_eq_false_iff_eq]; omega
 go_wp2_with fail
 refine (N2.out bx rb _ HX2.out HR2.out).mono ?_
 rintro e w12 ⟨rfl,hr,hu⟩
 have HB3:=Lib.hid (HB2.out.upd hu (by simp; omega))
 have HX3:=Lib.hid (HX2.out.upd hu (by simp; omega))
 have HU3:=Lib.hid (HU2.out.trans hu (fun k hk => .inr (by simp at hk; omega)))
 have HR3:=Lib.hid hr
 clear hr hu HB2 HX2 HU2 HR2 N2
 by_cases g2:v2=0
 rotate_left
 · have HV:=Lib.hid (HRX.out.trans (if_pos (.inr (.inl g2))))
   have HB:=HB3
   have HU:=HU3
   have e2:(((v2:Nat):Int) != 0)=true:=by rw [bne_iff_ne]; omega
   have kA:=HB.out.all
   have fA:=HB.out.frz
   go_wp2
   exact bodyPost_ret (xW rfl _ _ b _ _ _ _ rfl (Blk.set4 HB.out _ _ _ _)) rfl ⟨by rw [HV.out]; rfl,Upd.set4 HU.out (.inr HWB.out) _ _ _ _⟩
 have e2:(((v2:Nat):Int) != 0)=false:=by rw [bne_eq_false_iff_eq]; omega
 go_wp2_with fail
 refine (N3.out bx rb _ HX3.out HR3.out).mono ?_
 rintro e w13 ⟨rfl,hr,hu⟩
 have HB4:=Lib.hid (HB3.out.upd hu (by simp; omega))
 have HX4:=Lib.hid (HX3.out.upd hu (by simp; omega))
 have HU4:=Lib.hid (HU3.out.trans hu (fun k hk => .inr (by simp at hk; omega)))
 have HR4:=Lib.hid hr
 clear hr hu HB3 HX3 HU3 HR3 N3
 have hce:rb<w13.heap.size∧bx<w13.heap.size∧b<w13.heap.size∧w.heap.size≤w13.heap.size:=⟨HR4.out.lt,HX4.out.lt,HB4.out.lt,HU4.out.size⟩
 have HE4:=Lib.hid (Blk.new w13 [.int .i64 (v3:Nat),.int .i64 0,.int .i64 0,.int .i64 0] 69)
 have HA:=HB4
 have HB4:=Lib.hid (HA.out.alloc (.cells #[.int .i64 (v3:Nat),.int .i64 0,.int .i64 0,.int .i64 0] 69))
 have HA2:=HX4
 have HX4:=Lib.hid (HA2.out.alloc (.cells #[.int .i64 (v3:Nat),.int .i64 0,.int .i64 0,.int .i64 0] 69))
 have HA3:=HU4
 have HU4:=Lib.hid (HA3.out.alloc (.cells #[.int .i64 (v3:Nat),.int .i64 0,.int .i64 0,.int .i64 0] 69))
 have HA4:=HR4
 have HR4:Hid (Rdr (w13.alloc (.cells #[.int .i64 (v3:Nat),.int .i64 0,.int .i64 0,.int .i64 0] 69)) rb r3):=Lib.hid (HA4.out.alloc _)
 clear HA HA2 HA3 HA4
 go_upto_region 8 with fail
 change Code.wp _ _ _ _ (w13.alloc (.cells #[.int .i64 (v3:Nat),.int .i64 0,.int .i64 0,.int .i64 0] 69))
 generalize w13.alloc (.cells #[.int .i64 (v3:Nat),.int .i64 0,.int .i64 0,.int .i64 0] 69)=wE at *
 generalize w13.heap.size=ce at *
 have G1:=Lib.hid g1
 have G2:=Lib.hid g2
 clear g1 g2 e1 e2
 go_wp2_with fail
 refine (N4.out bx rb _ HX4.out HR4.out).mono ?_
 rintro e w14 ⟨rfl,hr,hu⟩
 have HB5:=Lib.hid (HB4.out.upd hu (by simp; omega))
 have HX5:=Lib.hid (HX4.out.upd hu (by simp; omega))
 have HU5:=Lib.hid (HU4.out.trans hu (fun k hk => .inr (by simp at hk; omega)))
 have HR5:=Lib.hid hr
 have HE5:=Lib.hid (HE4.out.upd hu (by simp; omega))
 clear hr hu HB4 HX4 HU4 HR4 HE4 N4
 go_wp2_with fail
 refine (N5.out bx rb _ HX5.out HR5.out).mono ?_
 rintro e w15 ⟨rfl,hr,hu⟩
 have HB6:=Lib.hid (HB5.out.upd hu (by simp; omega))
 have HX6:=Lib.hid (HX5.out.upd hu (by simp; omega))
 have HU6:=Lib.hid (HU5.out.trans hu (fun k hk => .inr (by simp at hk; omega)))
 have HR6:=Lib.hid hr
 have HE6:=Lib.hid (HE5.out.upd hu (by simp; omega))
 clear hr hu HB5 HX5 HU5 HR5 HE5 N5
 go_wp2_with fail
 refine (N6.out bx rb _ HX6.out HR6.out).mono ?_
 rintro e w16 ⟨rfl,hr,hu⟩
 have HB7:=Lib.hid (HB6.out.upd hu (by simp; omega))
 have HX7:=Lib.hid (HX6.out.upd hu (by simp; omega))
 have HU7:=Lib.hid (HU6.out.trans hu (fun k hk => .inr (by simp at hk; omega)))
 have HR7:=Lib.hid hr
 have HE7:=Lib.hid (HE6.out.upd hu (by simp; omega))
 clear hr hu HB6 HX6 HU6 HR6 HE6 N6
 go_wp2_with fail
 refine (N7.out bx rb _ HX7.out HR7.out).mono ?_
 rintro e w17 ⟨rfl,hr,hu⟩
 have HB8:=Lib.hid (HB7.out.upd hu (by simp; omega))
 have HX8:=Lib.hid (HX7.out.upd hu (by simp; omega))
 have HU8:=Lib.hid (HU7.out.trans hu (fun k hk => .inr (by simp at hk; omega)))
 have HR8:=Lib.hid hr
 have HE8:=Lib.hid (HE7.out.upd hu (by simp; omega))
 clear hr hu HB7 HX7 HU7 HR7 HE7 N7
 have aA:=HE8.out.all
 have qA:=HE8.out.frz
 go_upto_region 10 with fail
 have HE9:=Lib.hid (((HE8.out.set 1 (.int .i64 (v5:Nat))).set 2 (.int .i64 (v6:Nat))).set 3 (.int .i64 (v7:Nat)))
 have hne:ce≠rb∧ce≠bx∧ce≠b:=by omega
 have HB9:=Lib.hid (((HB8.out.setFar (a:=⟨ce,1,none⟩) (.int .i64 (v5:Nat)) (Ne.symm hne.2.2)).setFar (a:=⟨ce,2,none⟩) (.int .i64 (v6:Nat)) (Ne.symm hne.2.2)).setFar (a:=⟨ce,3,none⟩) (.int .i64 (v7:Nat)) (Ne.symm hne.2.2))
 have HX9:=Lib.hid (((HX8.out.setFar (a:=⟨ce,1,none⟩) (.int .i64 (v5:Nat)) (Ne.symm hne.2.1)).setFar (a:=⟨ce,2,none⟩) (.int .i64 (v6:Nat)) (Ne.symm hne.2.1)).setFar (a:=⟨ce,3,none⟩) (.int .i64 (v7:Nat)) (Ne.symm hne.2.1))
 have hrs:=((Blk.setFar (a:=⟨ce,1,none⟩) HR8.out (.int .i64 (v5:Nat)) (Ne.symm hne.1)).setFar (a:=⟨ce,2,none⟩) (.int .i64 (v6:Nat)) (Ne.symm hne.1)).setFar (a:=⟨ce,3,none⟩) (.int .i64 (v7:Nat)) (Ne.symm hne.1)
 have HR9:=Lib.hid hrs
 have HU9:=Lib.hid (((HU8.out.setCell (p:=⟨ce,1,none⟩) (.inr hce.2.2.2) (.int .i64 (v5:Nat))).setCell (p:=⟨ce,2,none⟩) (.inr hce.2.2.2) (.int .i64 (v6:Nat))).setCell (p:=⟨ce,3,none⟩) (.inr hce.2.2.2) (.int .i64 (v7:Nat)))
 generalize ((w17.setCell ⟨ce,1,none⟩ (.int .i64 (v5:Nat))).setCell ⟨ce,2,none⟩ (.int .i64 (v6:Nat))).setCell ⟨ce,3,none⟩ (.int .i64 (v7:Nat))=wS at *
 clear aA qA HE8 HB8 HX8 HR8 HU8 hrs
 have HZ:Hid (EP.1=if EP.2=true then ⟨v3,v5,v6,v7⟩ else EgD.no):=Lib.hid (by rw [HRX.out]; split<;>rfl)
 have HRX2:Hid (EP.2=decide (¬ (v1≠101010256∨v2≠0∨r7.bad=true∨v4≠v3∨zH ⟨v3,v5,v6,v7⟩=false∨(r7.s.size:Int)-(r7.p:Nat)≠(v7:Nat)))):=Lib.hid (by rw [HRX.out]; split<;>rename_i h<;>simp only [h]<;>rfl)
 unfold EgD.v at HRG
 dsimp only at HRG
 generalize zH ⟨v3,v5,v6,v7⟩=RB at *
 obtain ⟨bd,hbd⟩ : ∃ bd,r7.bad=bd:=⟨_,rfl⟩
 rw [hbd] at HRX2 HFI
 obtain ⟨lf,hlf⟩ : ∃ lf,(r7.s.size:Int)-(r7.p:Nat)=lf:=⟨_,rfl⟩
 rw [hlf] at HRX2 HLF
 clear hbd hlf HRX
 go_cut [67] (fun s67 wx=>s67 = .bool (!EP.2)∧Blk wx ce [.int .i64 (v3:Nat),.int .i64 (v5:Nat),.int .i64 (v6:Nat),.int .i64 (v7:Nat)] 69∧Blk wx b [.int .i64 0,.int .i64 0,.int .i64 0,.int .i64 0] 69∧Upd [] w wx)
 case first =>
  have hg1:v1=101010256:=G1.out
  have hg2:v2=0:=G2.out
  cases bd with
  | true =>
    have HV:=Lib.hid (HRX2.out.trans (show _=false by simp))
    refine wp_region_held_drew (S:=fun w'=>Rdr w' rb r7∧Blk w' bx [.pointer (some ⟨rb,0,none⟩)] 127∧Blk w' ce [.int .i64 (v3:Nat),.int .i64 (v5:Nat),.int .i64 (v6:Nat),.int .i64 (v7:Nat)] 69∧Blk w' b [.int .i64 0,.int .i64 0,.int .i64 0,.int .i64 0] 69∧Upd [] w w') (by kernel_rfl) ⟨Blk.drew HR9.out,HX9.out.drew,HE9.out.drew,HB9.out.drew,HU9.out.drew⟩ (fun hHeld=>hdN ?_)
    refine hdT 0 (some 47) ?_ (hy:=by intro w0 hSw; have q0:=hSw.2.1.cell 0 rfl; go_simp; try with_reducible rfl)
    refine hdO 1 (fun K hK=>?_)
    go_simp
    refine (HFI.out _ _ hHeld.1).mono ?_
    rintro e z1 ⟨rfl,hz1⟩
    subst hz1
    go_wp2
    refine hK.out _ _ hHeld (fun hHeld=>hdN ?_)
    clear hK K
    refine hdT 2 (some 49) ?_; refine hdT 3 (some 50) ?_; refine hdK 4 (some 51) ?_; refine hdK 5 (some 52) ?_; refine hdK 6 (some 53) ?_
    refine hdK 7 (some 54) ?_; refine hdT 8 (some 55) ?_; refine hdT 9 (some 56) ?_; refine hdK 10 (some 57) ?_; refine hdK 11 (some 58) ?_
    refine hdK 12 (some 59) ?_; refine hdT 13 (some 60) ?_; refine hdT 14 (some 61) ?_; refine hdK 15 (some 62) ?_; refine hdK 16 (some 63) ?_
    refine hdK 17 (some 64) ?_; refine hdK 18 (some 65) ?_; refine hdK 19 (some 66) ?_; refine hdT 20 (some 67) ?_
    refine wpAnyH_done (by kernel_rfl) ?_ 0
    go_wp2
    go_meet
    exact ⟨by rw [HV.out]; rfl,hHeld.2.2.1,hHeld.2.2.2.1,hHeld.2.2.2.2⟩
  | false =>
  by_cases e2:v4=v3
  rotate_left
  · have TQ:Hid (((v4:Int)==(v3:Int))=false):=Lib.hid (by rw [beq_eq_false_iff_ne]; omega)
    have HV:=Lib.hid (HRX2.out.trans (show _=false by simp [e2]))
    clear e2
    refine wp_region_held_drew (S:=fun w'=>Rdr w' rb r7∧Blk w' bx [.pointer (some ⟨rb,0,none⟩)] 127∧Blk w' ce [.int .i64 (v3:Nat),.int .i64 (v5:Nat),.int .i64 (v6:Nat),.int .i64 (v7:Nat)] 69∧Blk w' b [.int .i64 0,.int .i64 0,.int .i64 0,.int .i64 0] 69∧Upd [] w w') (by kernel_rfl) ⟨Blk.drew HR9.out,HX9.out.drew,HE9.out.drew,HB9.out.drew,HU9.out.drew⟩ (fun hHeld=>hdN ?_)
    refine hdT 0 (some 47) ?_ (hy:=by intro w0 hSw; have q0:=hSw.2.1.cell 0 rfl; go_simp; try with_reducible rfl)
    refine hdO 1 (fun K hK=>?_)
    go_simp
    refine (HFI.out _ _ hHeld.1).mono ?_
    rintro e z1 ⟨rfl,hz1⟩
    subst hz1
    go_wp2
    refine hK.out _ _ hHeld (fun hHeld=>hdN ?_)
    clear hK K
    refine hdT 2 (some 49) ?_; refine hdT 3 (some 50) ?_; refine hdT 4 (some 51) ?_; refine hdT 5 (some 52) ?_
    refine hdT 6 (some 53) ?_ (hy:=by intro w0 hSw; have q0:=hSw.2.2.1.cell 0 rfl; go_simp; try with_reducible rfl)
    refine hdT 7 (some 54) ?_ (hy:=by intro w0 hSw; go_simp; all_goals simpa using TQ.out) (v := .bool true); refine hdT 8 (some 55) ?_
    refine hdT 9 (some 56) ?_; refine hdK 10 (some 57) ?_; refine hdK 11 (some 58) ?_; refine hdK 12 (some 59) ?_; refine hdT 13 (some 60) ?_
    refine hdT 14 (some 61) ?_; refine hdK 15 (some 62) ?_; refine hdK 16 (some 63) ?_; refine hdK 17 (some 64) ?_; refine hdK 18 (some 65) ?_
    refine hdK 19 (some 66) ?_; refine hdT 20 (some 67) ?_
    refine wpAnyH_done (by kernel_rfl) ?_ 0
    go_wp2
    go_meet
    exact ⟨by rw [HV.out]; rfl,hHeld.2.2.1,hHeld.2.2.2.1,hHeld.2.2.2.2⟩
  have TQ:Hid (((v4:Int)==(v3:Int))=true):=Lib.hid (by rw [beq_iff_eq]; omega)
  cases RB with
  | false =>
    have HV:=Lib.hid (HRX2.out.trans (show _=false by simp))
    clear e2
    refine wp_region_held_drew (S:=fun w'=>Rdr w' rb r7∧Blk w' bx [.pointer (some ⟨rb,0,none⟩)] 127∧Blk w' ce [.int .i64 (v3:Nat),.int .i64 (v5:Nat),.int .i64 (v6:Nat),.int .i64 (v7:Nat)] 69∧Blk w' b [.int .i64 0,.int .i64 0,.int .i64 0,.int .i64 0] 69∧Upd [] w w') (by kernel_rfl) ⟨Blk.drew HR9.out,HX9.out.drew,HE9.out.drew,HB9.out.drew,HU9.out.drew⟩ (fun hHeld=>hdN ?_)
    refine hdT 0 (some 47) ?_ (hy:=by intro w0 hSw; have q0:=hSw.2.1.cell 0 rfl; go_simp; try with_reducible rfl)
    refine hdO 1 (fun K hK=>?_)
    go_simp
    refine (HFI.out _ _ hHeld.1).mono ?_
    rintro e z1 ⟨rfl,hz1⟩
    subst hz1
    go_wp2
    refine hK.out _ _ hHeld (fun hHeld=>hdN ?_)
    clear hK K
    refine hdT 2 (some 49) ?_; refine hdT 3 (some 50) ?_; refine hdT 4 (some 51) ?_; refine hdT 5 (some 52) ?_
    refine hdT 6 (some 53) ?_ (hy:=by intro w0 hSw; have q0:=hSw.2.2.1.cell 0 rfl; go_simp; try with_reducible rfl)
    refine hdT 7 (some 54) ?_ (hy:=by intro w0 hSw; go_simp; all_goals simpa using TQ.out) (v := .bool false); refine hdT 8 (some 55) ?_
    refine hdT 9 (some 56) ?_
    refine hdT 10 (some 57) ?_ (hy:=by intro w0 hSw; have qA:=hSw.2.2.1.all; go_simp; try with_reducible rfl)
    refine hdO 11 (fun K hK=>?_)
    go_simp
    refine (HRG.out _).mono ?_
    rintro e z2 ⟨rfl,hz2⟩
    go_wp2
    refine hK.out _ _ ⟨Blk.upd hHeld.1 hz2 (by simp),hHeld.2.1.upd hz2 (by simp),hHeld.2.2.1.upd hz2 (by simp),hHeld.2.2.2.1.upd hz2 (by simp),hHeld.2.2.2.2.then hz2⟩ (fun hHeld=>hdN ?_)
    clear hK K
    refine hdT 12 (some 59) ?_; refine hdT 13 (some 60) ?_; refine hdT 14 (some 61) ?_; refine hdK 15 (some 62) ?_; refine hdK 16 (some 63) ?_
    refine hdK 17 (some 64) ?_; refine hdK 18 (some 65) ?_; refine hdK 19 (some 66) ?_; refine hdT 20 (some 67) ?_
    refine wpAnyH_done (by kernel_rfl) ?_ 0
    go_wp2
    go_meet
    exact ⟨by rw [HV.out]; rfl,hHeld.2.2.1,hHeld.2.2.2.1,hHeld.2.2.2.2⟩
  | true =>
    by_cases e4:lf=(v7:Nat)
    · have TL:Hid ((lf==(v7:Int))=true):=Lib.hid (by rw [beq_iff_eq]; exact e4)
      have HV:=Lib.hid (HRX2.out.trans (show _=true by simp [e2,e4,hg1,hg2]))
      clear e2 e4
      refine wp_region_held_drew (S:=fun w'=>Rdr w' rb r7∧Blk w' bx [.pointer (some ⟨rb,0,none⟩)] 127∧Blk w' ce [.int .i64 (v3:Nat),.int .i64 (v5:Nat),.int .i64 (v6:Nat),.int .i64 (v7:Nat)] 69∧Blk w' b [.int .i64 0,.int .i64 0,.int .i64 0,.int .i64 0] 69∧Upd [] w w') (by kernel_rfl) ⟨Blk.drew HR9.out,HX9.out.drew,HE9.out.drew,HB9.out.drew,HU9.out.drew⟩ (fun hHeld=>hdN ?_)
      refine hdT 0 (some 47) ?_ (hy:=by intro w0 hSw; have q0:=hSw.2.1.cell 0 rfl; go_simp; try with_reducible rfl)
      refine hdO 1 (fun K hK=>?_)
      go_simp
      refine (HFI.out _ _ hHeld.1).mono ?_
      rintro e z1 ⟨rfl,hz1⟩
      subst hz1
      go_wp2
      refine hK.out _ _ hHeld (fun hHeld=>hdN ?_)
      clear hK K
      refine hdT 2 (some 49) ?_; refine hdT 3 (some 50) ?_; refine hdT 4 (some 51) ?_; refine hdT 5 (some 52) ?_
      refine hdT 6 (some 53) ?_ (hy:=by intro w0 hSw; have q0:=hSw.2.2.1.cell 0 rfl; go_simp; try with_reducible rfl)
      refine hdT 7 (some 54) ?_ (hy:=by intro w0 hSw; go_simp; all_goals simpa using TQ.out) (v := .bool false); refine hdT 8 (some 55) ?_
      refine hdT 9 (some 56) ?_
      refine hdT 10 (some 57) ?_ (hy:=by intro w0 hSw; have qA:=hSw.2.2.1.all; go_simp; try with_reducible rfl)
      refine hdO 11 (fun K hK=>?_)
      go_simp
      refine (HRG.out _).mono ?_
      rintro e z2 ⟨rfl,hz2⟩
      go_wp2
      refine hK.out _ _ ⟨Blk.upd hHeld.1 hz2 (by simp),hHeld.2.1.upd hz2 (by simp),hHeld.2.2.1.upd hz2 (by simp),hHeld.2.2.2.1.upd hz2 (by simp),hHeld.2.2.2.2.then hz2⟩ (fun hHeld=>hdN ?_)
      clear hK K
      refine hdT 12 (some 59) ?_; refine hdT 13 (some 60) ?_; refine hdT 14 (some 61) ?_
      refine hdT 15 (some 62) ?_ (hy:=by intro w0 hSw; have q0:=hSw.2.1.cell 0 rfl; go_simp; try with_reducible rfl); refine hdT 17 (some 64) ?_
      refine hdT 18 (some 65) ?_ (hy:=by intro w0 hSw; have q0:=hSw.2.2.1.cell 3 rfl; go_simp; try with_reducible rfl)
      refine hdO 16 (fun K hK=>?_)
      go_simp
      refine (HLF.out _ _ hHeld.1).mono ?_
      rintro e z3 ⟨rfl,hz3,hr3⟩
      go_wp2
      refine hK.out _ _ ⟨hr3,hHeld.2.1.upd hz3 (by simp),hHeld.2.2.1.upd hz3 (by simp),hHeld.2.2.2.1.upd hz3 (by simp),hHeld.2.2.2.2.then hz3⟩ (fun hHeld=>hdN ?_)
      clear hK K
      refine hdT 19 (some 66) ?_ (hy:=by intro w0 hSw; go_simp; all_goals simpa using TL.out) (v := .bool false); refine hdT 20 (some 67) ?_
      refine wpAnyH_done (by kernel_rfl) ?_ 0
      go_wp2
      go_meet
      exact ⟨by rw [HV.out]; rfl,hHeld.2.2.1,hHeld.2.2.2.1,hHeld.2.2.2.2⟩
    · have TL:Hid ((lf==(v7:Int))=false):=Lib.hid (by rw [beq_eq_false_iff_ne]; exact e4)
      have HV:=Lib.hid (HRX2.out.trans (show _=false by simp [e4]))
      clear e2 e4
      refine wp_region_held_drew (S:=fun w'=>Rdr w' rb r7∧Blk w' bx [.pointer (some ⟨rb,0,none⟩)] 127∧Blk w' ce [.int .i64 (v3:Nat),.int .i64 (v5:Nat),.int .i64 (v6:Nat),.int .i64 (v7:Nat)] 69∧Blk w' b [.int .i64 0,.int .i64 0,.int .i64 0,.int .i64 0] 69∧Upd [] w w') (by kernel_rfl) ⟨Blk.drew HR9.out,HX9.out.drew,HE9.out.drew,HB9.out.drew,HU9.out.drew⟩ (fun hHeld=>hdN ?_)
      refine hdT 0 (some 47) ?_ (hy:=by intro w0 hSw; have q0:=hSw.2.1.cell 0 rfl; go_simp; try with_reducible rfl)
      refine hdO 1 (fun K hK=>?_)
      go_simp
      refine (HFI.out _ _ hHeld.1).mono ?_
      rintro e z1 ⟨rfl,hz1⟩
      subst hz1
      go_wp2
      refine hK.out _ _ hHeld (fun hHeld=>hdN ?_)
      clear hK K
      refine hdT 2 (some 49) ?_; refine hdT 3 (some 50) ?_; refine hdT 4 (some 51) ?_; refine hdT 5 (some 52) ?_
      refine hdT 6 (some 53) ?_ (hy:=by intro w0 hSw; have q0:=hSw.2.2.1.cell 0 rfl; go_simp; try with_reducible rfl)
      refine hdT 7 (some 54) ?_ (hy:=by intro w0 hSw; go_simp; all_goals simpa using TQ.out) (v := .bool false); refine hdT 8 (some 55) ?_
      refine hdT 9 (some 56) ?_
      refine hdT 10 (some 57) ?_ (hy:=by intro w0 hSw; have qA:=hSw.2.2.1.all; go_simp; try with_reducible rfl)
      refine hdO 11 (fun K hK=>?_)
      go_simp
      refine (HRG.out _).mono ?_
      rintro e z2 ⟨rfl,hz2⟩
      go_wp2
      refine hK.out _ _ ⟨Blk.upd hHeld.1 hz2 (by simp),hHeld.2.1.upd hz2 (by simp),hHeld.2.2.1.upd hz2 (by simp),hHeld.2.2.2.1.upd hz2 (by simp),hHeld.2.2.2.2.then hz2⟩ (fun hHeld=>hdN ?_)
      clear hK K
      refine hdT 12 (some 59) ?_; refine hdT 13 (some 60) ?_; refine hdT 14 (some 61) ?_
      refine hdT 15 (some 62) ?_ (hy:=by intro w0 hSw; have q0:=hSw.2.1.cell 0 rfl; go_simp; try with_reducible rfl); refine hdT 17 (some 64) ?_
      refine hdT 18 (some 65) ?_ (hy:=by intro w0 hSw; have q0:=hSw.2.2.1.cell 3 rfl; go_simp; try with_reducible rfl)
      refine hdO 16 (fun K hK=>?_)
      go_simp
      refine (HLF.out _ _ hHeld.1).mono ?_
      rintro e z3 ⟨rfl,hz3,hr3⟩
      go_wp2
      refine hK.out _ _ ⟨hr3,hHeld.2.1.upd hz3 (by simp),hHeld.2.2.1.upd hz3 (by simp),hHeld.2.2.2.1.upd hz3 (by simp),hHeld.2.2.2.2.then hz3⟩ (fun hHeld=>hdN ?_)
      clear hK K
      refine hdT 19 (some 66) ?_ (hy:=by intro w0 hSw; go_simp; all_goals simpa using TL.out) (v := .bool true); refine hdT 20 (some 67) ?_
      refine wpAnyH_done (by kernel_rfl) ?_ 0
      go_wp2
      go_meet
      exact ⟨by rw [HV.out]; rfl,hHeld.2.2.1,hHeld.2.2.2.1,hHeld.2.2.2.2⟩
 case rest =>
 obtain ⟨rfl,hE,hB,hU⟩:=hcut
 have HB:=Lib.hid hB
 have HU:=Lib.hid hU
 have cA:=hE.all
 clear hE hB hU HB9 HX9 HR9 HU9 HE9 HRX2
 obtain ⟨E1,E2⟩:=EP
 dsimp only at HZ
 cases E2 with
 | false =>
   have HV:=HZ
   have kA:=HB.out.all
   have fA:=HB.out.frz
   go_wp2
   exact bodyPost_ret (xW rfl _ _ b _ _ _ _ rfl (Blk.set4 HB.out _ _ _ _)) rfl ⟨by rw [HV.out]; rfl,Upd.set4 HU.out (.inr HWB.out) _ _ _ _⟩
 | true =>
   have HV:=HZ
   have kA:=HB.out.all
   have fA:=HB.out.frz
   go_wp2
   exact bodyPost_ret (xW rfl _ _ b _ _ _ _ rfl (Blk.set4 HB.out _ _ _ _)) rfl ⟨by rw [HV.out]; rfl,Upd.set4 HU.out (.inr HWB.out) _ _ _ _⟩
end Go.Proofs.YtigjingielnaoaaGreatDoor
