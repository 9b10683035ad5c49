/- Package swingleref21: Read: its walk. -/
import Derived.Deep.CutBlock
import Derived.Test.YtigjingielnaoaaGreatDoorQBA
import Derived.Test.YtigjingielnaoaaGreatDoorQAZ
import Derived.Test.YtigjingielnaoaaGreatDoorQAE
set_option linter.unusedVariables false
set_option linter.unusedSimpArgs false
set_option linter.unusedSectionVars false
namespace Go.Proofs.YtigjingielnaoaaGreatDoor
open Go.RowKit
theorem ze0 (p q:ByteArray):(p.toList==q.toList)=decide (ze p=ze q):=by
 rw [yT]
 unfold ze
 rw [ByteArray.toList_eq]
theorem zeB (x:ByteArray) (k:Nat) (h:k≤x.size) (L:List UInt8) (m:Nat) (hL:L.length=k) (hm:leG (L.map UInt8.toNat)=m):((x.extract 0 k).toList==L)=decide (gN x 0 k=m):=by
 rw [yT,Bool.eq_iff_iff,decide_eq_true_eq,decide_eq_true_eq,zr]
 unfold gN
 rw [← hm,Nat.sub_zero]
 refine ⟨fun e=>by rw [e],fun e=>XH (fun y hy=>yk x y (List.mem_of_mem_drop (List.mem_of_mem_take hy))) (fun y hy=>?_) (by rw [List.length_take,List.length_drop,zg,List.length_map,hL]; omega) e⟩
 obtain ⟨z,_,rfl⟩:=List.mem_map.1 hy
 exact z.toNat_lt
theorem zeV (x y:ByteArray) (i j k:Nat) (h:i+k≤x.size) (h2:j+k≤y.size):((x.extract i (i+k)).toList==(y.extract j (j+k)).toList)=decide (gN x i k=gN y j k):=by
 rw [ze0,Bool.eq_iff_iff,decide_eq_true_eq,decide_eq_true_eq,zr,zr]
 unfold gN
 rw [Nat.add_sub_cancel_left,Nat.add_sub_cancel_left]
 exact ⟨fun e=>by rw [e],fun e=>XH (fun z hz=>yk x z (List.mem_of_mem_drop (List.mem_of_mem_take hz))) (fun z hz=>yk y z (List.mem_of_mem_drop (List.mem_of_mem_take hz))) (by rw [List.length_take,List.length_drop,zg,List.length_take,List.length_drop,zg]; omega) e⟩
theorem zeZ (x:ByteArray) (h:8≤x.size):gN x 0 8=gN x 0 4+4294967296*gN x 4 4:=by
 unfold gN
 have e:((ze x).drop 0).take 8=((ze x).drop 0).take 4++((ze x).drop 4).take 4:=by
  rw [List.drop_zero,show (8:Nat)=4+4 from rfl,List.take_add]
 have hl:(((ze x).drop 0).take 4).length=4:=by rw [List.length_take,List.length_drop,zg]; omega
 rw [e,kd,hl]
theorem zeU (x:ByteArray) (h:22≤x.size):(egX x).2=(decide (gN x 0 8=101010256)&&decide (gN x 8 2=gN x 10 2)&&zH (vD x)&&decide (x.size=22+gN x 20 2)):=by
 have h8:=zeZ x (by omega)
 have h4:=zC x 0 4
 unfold egX
 split
 · rename_i h1
   show false=_
   symm
   rw [Bool.eq_false_iff]
   intro h2
   simp only [Bool.and_eq_true,decide_eq_true_eq] at h2
   obtain ⟨⟨⟨a1,a2⟩,a3⟩,a4⟩:=h2
   rcases h1 with h1 | h1 | h1 | h1 | h1 | h1
   · omega
   · omega
   · omega
   · exact h1 a2
   · rw [h1] at a3; cases a3
   · exact h1 a4
 · rename_i h1
   simp only [not_or,Classical.not_not,Bool.not_eq_false] at h1
   show true=_
   symm
   simp only [Bool.and_eq_true,decide_eq_true_eq]
   refine ⟨⟨⟨by omega,h1.2.2.2.1⟩,h1.2.2.2.2.1⟩,h1.2.2.2.2.2⟩
theorem zeN (x:ByteArray):(egX x).1=if (egX x).2=true then vD x else EgD.no:=by
 unfold egX
 split<;>rfl
theorem qz {fn:Func} {p t:Tmp} (h:fn.results = #[.cell p 44,.tmp t]) (tmps:Array Value) (w:World) (g:Nat) (c0 c1 c2 c3:Value) (hp:tmps.getD p undef = .pointer (some ⟨g,0,none⟩)) (hB:Blk w g [c0,c1,c2,c3] 44) :
 (results fn tmps).run Tryz.prog w = .ok (.tuple #[.agg #[c0,c1,c2,c3],tmps.getD t undef]) w:=by
 have h0:=hB.cell 0 rfl
 have h1:=hB.cell 1 rfl
 have h2:=hB.cell 2 rfl
 have h3:=hB.cell 3 rfl
 have hp2:tmps[p]?.getD undef = .pointer (some ⟨g,0,none⟩):=by rw [← hp]; simp
 simp [results,h,go_sem,hp2,h0,h1,h2,h3]
theorem Blk.set4 {w:World} {b:Nat} {a0 a1 a2 a3:Value} {t:TypeId} (h:Blk w b [a0,a1,a2,a3] t) (v0 v1 v2 v3:Value) :
 Blk ((((w.setCell ⟨b,0,none⟩ v0).setCell ⟨b,1,none⟩ v1).setCell ⟨b,2,none⟩ v2).setCell ⟨b,3,none⟩ v3) b [v0,v1,v2,v3] t:=(((h.set 0 v0).set 1 v1).set 2 v2).set 3 v3
theorem Upd.set4 {fp:List Nat} {w0 w:World} {b:Nat} (h:Upd fp w0 w) (hb:b∈fp∨w0.heap.size≤b) (v0 v1 v2 v3:Value) :
 Upd fp w0 ((((w.setCell ⟨b,0,none⟩ v0).setCell ⟨b,1,none⟩ v1).setCell ⟨b,2,none⟩ v2).setCell ⟨b,3,none⟩ v3):=(((h.setCell hb v0).setCell hb v1).setCell hb v2).setCell hb v3
set_option maxRecDepth 100000 in
set_option maxHeartbeats 3200000 in
theorem KN (s:ByteArray) (a:Int) (w:World) (hs:s.size≤1000000) :
 Calls Tryz.prog 83 #[.string s,.int .i64 a] w fun e w'=>e = .returned (.tuple #[(egP s a).1.v,.bool (egP s a).2])∧Upd [] w w':=by
 have HP:Hid (egP s a=if a<0∨(s.size:Int)<a then (EgD.no,false) else egX (s.extract a.toNat s.size)):=Lib.hid rfl
 have HXS:Hid ((s.extract a.toNat s.size).size=s.size-a.toNat):=Lib.hid (by rw [ByteArray.size_extract]; omega)
 have HX2:=Lib.hid (zeU (s.extract a.toNat s.size))
 have HX1:=Lib.hid (zeN (s.extract a.toNat s.size))
 have HXN:Hid ((s.extract a.toNat s.size).size<22→egX (s.extract a.toNat s.size)=(EgD.no,false)):=Lib.hid (fun h=>if_pos (.inl h))
 generalize egP s a=EP at *
 generalize egX (s.extract a.toNat s.size)=EX at *
 have HB:=Lib.hid (Blk.new w [.int .i64 0,.int .i64 0,.int .i64 0,.int .i64 0] 44)
 have HU:=Lib.hid ((Upd.refl [] w).alloc (.cells #[.int .i64 0,.int .i64 0,.int .i64 0,.int .i64 0] 44))
 go_enter Tryz.func83,Tryz.ntmps83
 go_upto_region 1 with fail
 change Code.wp _ _ _ _ (w.alloc (.cells #[.int .i64 0,.int .i64 0,.int .i64 0,.int .i64 0] 44))
 generalize w.alloc (.cells #[.int .i64 0,.int .i64 0,.int .i64 0,.int .i64 0] 44)=w1 at *
 generalize hb:w.heap.size=b at *
 have HWB:=Lib.hid (show w.heap.size≤b by omega)
 clear hb
 have kA:=HB.out.all
 have fA:=HB.out.frz
 by_cases h1:a<0
 · have HV:=Lib.hid (HP.out.trans (if_pos (.inl h1)))
   go_wp2
   exact bodyPost_ret (qz rfl _ _ b _ _ _ _ rfl (Blk.set4 HB.out _ _ _ _)) rfl ⟨by rw [HV.out]; rfl,Upd.set4 HU.out (.inr HWB.out) _ _ _ _⟩
 by_cases h2:(s.size:Int)<a
 · have HV:=Lib.hid (HP.out.trans (if_pos (.inr h2)))
   go_wp2
   exact bodyPost_ret (qz rfl _ _ b _ _ _ _ rfl (Blk.set4 HB.out _ _ _ _)) rfl ⟨by rw [HV.out]; rfl,Upd.set4 HU.out (.inr HWB.out) _ _ _ _⟩
 have HP2:=Lib.hid (HP.out.trans (if_neg (by omega)))
 have hw1:IntKind.i64.wrap ((s.size:Int)-a)=(s.size:Int)-a:=IntWalk.i64_in _ (by omega)
 by_cases h3:(s.size:Int)-a<22
 · have HV:=Lib.hid (HP2.out.trans (HXN.out (by rw [HXS.out]; omega)))
   go_wp2
   exact bodyPost_ret (qz rfl _ _ b _ _ _ _ rfl (Blk.set4 HB.out _ _ _ _)) rfl ⟨by rw [HV.out]; rfl,Upd.set4 HU.out (.inr HWB.out) _ _ _ _⟩
 clear HP HXN
 obtain ⟨x,hx⟩ : ∃ x,s.extract a.toNat s.size=x:=⟨_,rfl⟩
 have HXE:=Lib.hid hx
 rw [hx] at HXS HX2 HX1
 have hxs:22≤x.size∧x.size≤1000000:=by have:=HXS.out; omega
 have HX3:=Lib.hid (HX2.out (by omega))
 have HA1:=Lib.hid (fun z=>(show Calls Tryz.prog 124 #[.string x,.int .i64 8,.int .i64 2] z _ from zo x 8 2 z (by omega) (by omega) (by omega)))
 have HA2:=Lib.hid (fun z=>(show Calls Tryz.prog 124 #[.string x,.int .i64 12,.int .i64 4] z _ from zo x 12 4 z (by omega) (by omega) (by omega)))
 have HA3:=Lib.hid (fun z=>(show Calls Tryz.prog 124 #[.string x,.int .i64 16,.int .i64 4] z _ from zo x 16 4 z (by omega) (by omega) (by omega)))
 have HA4:=Lib.hid (fun z=>(show Calls Tryz.prog 124 #[.string x,.int .i64 20,.int .i64 2] z _ from zo x 20 2 z (by omega) (by omega) (by omega)))
 have HTM:=Lib.hid (zeB x 8 (by omega) [80,75,5,6,0,0,0,0] 101010256 rfl (by decide))
 have HTS:=Lib.hid (zeV x x 8 10 2 (by omega) (by omega))
 have hgd:gN x 20 2<65536:=zC x 20 2
 have HRG0:=fun z=>Zz (vD x) z
 have HOF:Hid ((vD x).v = .agg #[.int .i64 (gN x 8 2:Nat),.int .i64 (gN x 12 4:Nat),.int .i64 (gN x 16 4:Nat),.int .i64 (gN x 20 2:Nat)]):=Lib.hid rfl
 rw [HOF.out] at HRG0
 have HRG:=Lib.hid HRG0
 clear HRG0
 generalize zH (vD x)=RB at *
 generalize vD x=EO at *
 generalize hga:gN x 8 2=ga at *
 generalize gN x 12 4=gb at *
 generalize gN x 16 4=gc at *
 generalize gN x 20 2=gd at *
 have HG2:Hid ((decide (gN x 10 2=ga))=decide (ga=gN x 10 2)):=Lib.hid (by rw [Bool.eq_iff_iff,decide_eq_true_eq,decide_eq_true_eq]; exact eq_comm)
 clear hga hx HX2
 go_upto_region 3 with fail
 clear kA
 generalize w1=wA at *
 have h4:0≤a:=by omega
 have h5:a≤(s.size:Int):=by omega
 go_cut [0] (fun s0 wx=>s0 = .string x∧wx=wA)
 case first =>
  have hXE:=HXE.out
  go_wp2
  go_meet
  exact ⟨by first | rfl | rw [hXE],rfl⟩
 case rest =>
 obtain ⟨rfl,rfl⟩:=hcut
 clear h1 h2 h3 h4 h5 hw1
 go_wp2_with fail
 refine (HA1.out _).mono ?_
 rintro e w2 ⟨rfl,hu2⟩
 go_wp2_with fail
 refine (HA2.out _).mono ?_
 rintro e w3 ⟨rfl,hu3⟩
 go_wp2_with fail
 refine (HA3.out _).mono ?_
 rintro e w4 ⟨rfl,hu4⟩
 go_wp2_with fail
 refine (HA4.out _).mono ?_
 rintro e w5 ⟨rfl,hu5⟩
 have HB5:=Lib.hid (((((HB.out.upd hu2 (by simp)).upd hu3 (by simp)).upd hu4 (by simp)).upd hu5 (by simp)).alloc (.cells #[.int .i64 (ga:Nat),.int .i64 (gb:Nat),.int .i64 (gc:Nat),.int .i64 (gd:Nat)] 44))
 have HU5:=Lib.hid (((((HU.out.then hu2).then hu3).then hu4).then hu5).alloc (.cells #[.int .i64 (ga:Nat),.int .i64 (gb:Nat),.int .i64 (gc:Nat),.int .i64 (gd:Nat)] 44))
 have HC5:=Lib.hid (Blk.new w5 [.int .i64 (ga:Nat),.int .i64 (gb:Nat),.int .i64 (gc:Nat),.int .i64 (gd:Nat)] 44)
 clear hu2 hu3 hu4 hu5 HA1 HA2 HA3 HA4 HB HU fA
 go_upto_region 5 with fail
 change Code.wp _ _ _ _ (w5.alloc (.cells #[.int .i64 (ga:Nat),.int .i64 (gb:Nat),.int .i64 (gc:Nat),.int .i64 (gd:Nat)] 44))
 generalize w5.alloc (.cells #[.int .i64 (ga:Nat),.int .i64 (gb:Nat),.int .i64 (gc:Nat),.int .i64 (gd:Nat)] 44)=w6 at *
 generalize w5.heap.size=c at *
 have HW2:=Lib.hid (show IntKind.i64.wrap (22+(gd:Nat))=22+(gd:Nat) from IntWalk.i64_in _ (by omega))
 have HC:=HC5
 have HB:=HB5
 have HU:=HU5
 clear HC5 HB5 HU5
 go_cut [57] (fun s57 wx=>s57 = .bool (!EX.2)∧Blk wx c [.int .i64 (ga:Nat),.int .i64 (gb:Nat),.int .i64 (gc:Nat),.int .i64 (gd:Nat)] 44∧Blk wx b [.int .i64 0,.int .i64 0,.int .i64 0,.int .i64 0] 44∧Upd [] w wx)
 case first =>
  by_cases e1:gN x 0 8=101010256
  rotate_left
  · have TM:=Lib.hid (HTM.out.trans (decide_eq_false e1))
    have HV:=Lib.hid (HX3.out.trans (show _=false by simp [e1]))
    clear e1
    refine wp_region_held_drew (S:=fun w'=>Blk w' c [.int .i64 (ga:Nat),.int .i64 (gb:Nat),.int .i64 (gc:Nat),.int .i64 (gd:Nat)] 44∧Blk w' b [.int .i64 0,.int .i64 0,.int .i64 0,.int .i64 0] 44∧Upd [] w w') (by kernel_rfl) ⟨HC.out.drew,HB.out.drew,HU.out.drew⟩ (fun hHeld=>hdN ?_)
    refine hdT 0 (some 35) ?_
    refine hdT 1 (some 36) ?_ (hy:=by intro w0 hSw; go_simp; all_goals (intro hq; exfalso; omega)) (v := .string (x.extract 0 8))
    refine hdT 2 (some 37) ?_ (hy:=by intro w0 hSw; go_simp; all_goals simpa using TM.out) (v := .bool true); refine hdT 3 (some 38) ?_
    refine hdK 4 (some 39) ?_; refine hdK 5 (some 40) ?_; refine hdK 6 (some 41) ?_; refine hdK 7 (some 42) ?_; refine hdK 8 (some 43) ?_
    refine hdT 9 (some 44) ?_; refine hdT 10 (some 45) ?_; refine hdK 11 (some 46) ?_; refine hdK 12 (some 47) ?_; refine hdK 13 (some 48) ?_
    refine hdT 14 (some 49) ?_; refine hdT 15 (some 50) ?_; refine hdK 16 (some 51) ?_; refine hdK 17 (some 52) ?_; refine hdK 18 (some 53) ?_
    refine hdK 19 (some 54) ?_; refine hdK 20 (some 55) ?_; refine hdK 21 (some 56) ?_; refine hdT 22 (some 57) ?_
    refine wpAnyH_done (by kernel_rfl) ?_ 0
    go_wp2
    go_meet
    exact ⟨by rw [HV.out]; rfl,hHeld.1,hHeld.2.1,hHeld.2.2⟩
  have TM:=Lib.hid (HTM.out.trans (decide_eq_true e1))
  by_cases e2:ga=gN x 10 2
  rotate_left
  · have TS:=Lib.hid (show ((x.extract 8 10).toList==(x.extract 10 12).toList)=false from HTS.out.trans (decide_eq_false e2))
    have HV:=Lib.hid (HX3.out.trans (show _=false by simp [e2]))
    clear e1 e2
    refine wp_region_held_drew (S:=fun w'=>Blk w' c [.int .i64 (ga:Nat),.int .i64 (gb:Nat),.int .i64 (gc:Nat),.int .i64 (gd:Nat)] 44∧Blk w' b [.int .i64 0,.int .i64 0,.int .i64 0,.int .i64 0] 44∧Upd [] w w') (by kernel_rfl) ⟨HC.out.drew,HB.out.drew,HU.out.drew⟩ (fun hHeld=>hdN ?_)
    refine hdT 0 (some 35) ?_
    refine hdT 1 (some 36) ?_ (hy:=by intro w0 hSw; go_simp; all_goals (intro hq; exfalso; omega)) (v := .string (x.extract 0 8))
    refine hdT 2 (some 37) ?_ (hy:=by intro w0 hSw; go_simp; all_goals simpa using TM.out) (v := .bool false); refine hdT 3 (some 38) ?_
    refine hdT 4 (some 39) ?_
    refine hdT 5 (some 40) ?_ (hy:=by intro w0 hSw; go_simp; all_goals (intro hq; exfalso; omega)) (v := .string (x.extract 8 10))
    refine hdT 6 (some 41) ?_
    refine hdT 7 (some 42) ?_ (hy:=by intro w0 hSw; go_simp; all_goals (intro hq; exfalso; omega)) (v := .string (x.extract 10 12))
    refine hdT 8 (some 43) ?_ (hy:=by intro w0 hSw; go_simp; all_goals simpa using TS.out) (v := .bool true); refine hdT 9 (some 44) ?_
    refine hdT 10 (some 45) ?_; refine hdK 11 (some 46) ?_; refine hdK 12 (some 47) ?_; refine hdK 13 (some 48) ?_; refine hdT 14 (some 49) ?_
    refine hdT 15 (some 50) ?_; refine hdK 16 (some 51) ?_; refine hdK 17 (some 52) ?_; refine hdK 18 (some 53) ?_; refine hdK 19 (some 54) ?_
    refine hdK 20 (some 55) ?_; refine hdK 21 (some 56) ?_; refine hdT 22 (some 57) ?_
    refine wpAnyH_done (by kernel_rfl) ?_ 0
    go_wp2
    go_meet
    exact ⟨by rw [HV.out]; rfl,hHeld.1,hHeld.2.1,hHeld.2.2⟩
  have TS:=Lib.hid (show ((x.extract 8 10).toList==(x.extract 10 12).toList)=true from HTS.out.trans (decide_eq_true e2))
  cases RB with
  | false =>
    have HV:=Lib.hid (HX3.out.trans (show _=false by simp))
    clear e1 e2
    refine wp_region_held_drew (S:=fun w'=>Blk w' c [.int .i64 (ga:Nat),.int .i64 (gb:Nat),.int .i64 (gc:Nat),.int .i64 (gd:Nat)] 44∧Blk w' b [.int .i64 0,.int .i64 0,.int .i64 0,.int .i64 0] 44∧Upd [] w w') (by kernel_rfl) ⟨HC.out.drew,HB.out.drew,HU.out.drew⟩ (fun hHeld=>hdN ?_)
    refine hdT 0 (some 35) ?_
    refine hdT 1 (some 36) ?_ (hy:=by intro w0 hSw; go_simp; all_goals (intro hq; exfalso; omega)) (v := .string (x.extract 0 8))
    refine hdT 2 (some 37) ?_ (hy:=by intro w0 hSw; go_simp; all_goals simpa using TM.out) (v := .bool false); refine hdT 3 (some 38) ?_
    refine hdT 4 (some 39) ?_
    refine hdT 5 (some 40) ?_ (hy:=by intro w0 hSw; go_simp; all_goals (intro hq; exfalso; omega)) (v := .string (x.extract 8 10))
    refine hdT 6 (some 41) ?_
    refine hdT 7 (some 42) ?_ (hy:=by intro w0 hSw; go_simp; all_goals (intro hq; exfalso; omega)) (v := .string (x.extract 10 12))
    refine hdT 8 (some 43) ?_ (hy:=by intro w0 hSw; go_simp; all_goals simpa using TS.out) (v := .bool false); refine hdT 9 (some 44) ?_
    refine hdT 10 (some 45) ?_
    refine hdT 11 (some 46) ?_ (hy:=by intro w0 hSw; have qA:=hSw.1.all; go_simp; try with_reducible rfl)
    refine hdO 12 (fun K hK=>?_)
    go_simp
    refine (HRG.out _).mono ?_
    rintro e z1 ⟨rfl,hz1⟩
    go_wp2
    refine hK.out _ _ ⟨hHeld.1.upd hz1 (by simp),hHeld.2.1.upd hz1 (by simp),hHeld.2.2.then hz1⟩ (fun hHeld=>hdN ?_)
    clear hK K
    refine hdT 13 (some 48) ?_; refine hdT 14 (some 49) ?_; refine hdT 15 (some 50) ?_; refine hdK 16 (some 51) ?_; refine hdK 17 (some 52) ?_
    refine hdK 18 (some 53) ?_; refine hdK 19 (some 54) ?_; refine hdK 20 (some 55) ?_; refine hdK 21 (some 56) ?_; refine hdT 22 (some 57) ?_
    refine wpAnyH_done (by kernel_rfl) ?_ 0
    go_wp2
    go_meet
    exact ⟨by rw [HV.out]; rfl,hHeld.1,hHeld.2.1,hHeld.2.2⟩
  | true =>
    by_cases e4:x.size=22+gd
    · have TZ:Hid (((x.size:Int)==22+(gd:Nat))=true):=Lib.hid (by rw [beq_iff_eq]; omega)
      have HV:=Lib.hid (HX3.out.trans (show _=true by simp [e1,e2,e4]))
      clear e1 e2 e4
      refine wp_region_held_drew (S:=fun w'=>Blk w' c [.int .i64 (ga:Nat),.int .i64 (gb:Nat),.int .i64 (gc:Nat),.int .i64 (gd:Nat)] 44∧Blk w' b [.int .i64 0,.int .i64 0,.int .i64 0,.int .i64 0] 44∧Upd [] w w') (by kernel_rfl) ⟨HC.out.drew,HB.out.drew,HU.out.drew⟩ (fun hHeld=>hdN ?_)
      refine hdT 0 (some 35) ?_
      refine hdT 1 (some 36) ?_ (hy:=by intro w0 hSw; go_simp; all_goals (intro hq; exfalso; omega)) (v := .string (x.extract 0 8))
      refine hdT 2 (some 37) ?_ (hy:=by intro w0 hSw; go_simp; all_goals simpa using TM.out) (v := .bool false); refine hdT 3 (some 38) ?_
      refine hdT 4 (some 39) ?_
      refine hdT 5 (some 40) ?_ (hy:=by intro w0 hSw; go_simp; all_goals (intro hq; exfalso; omega)) (v := .string (x.extract 8 10))
      refine hdT 6 (some 41) ?_
      refine hdT 7 (some 42) ?_ (hy:=by intro w0 hSw; go_simp; all_goals (intro hq; exfalso; omega)) (v := .string (x.extract 10 12))
      refine hdT 8 (some 43) ?_ (hy:=by intro w0 hSw; go_simp; all_goals simpa using TS.out) (v := .bool false); refine hdT 9 (some 44) ?_
      refine hdT 10 (some 45) ?_
      refine hdT 11 (some 46) ?_ (hy:=by intro w0 hSw; have qA:=hSw.1.all; go_simp; try with_reducible rfl)
      refine hdO 12 (fun K hK=>?_)
      go_simp
      refine (HRG.out _).mono ?_
      rintro e z1 ⟨rfl,hz1⟩
      go_wp2
      refine hK.out _ _ ⟨hHeld.1.upd hz1 (by simp),hHeld.2.1.upd hz1 (by simp),hHeld.2.2.then hz1⟩ (fun hHeld=>hdN ?_)
      clear hK K
      refine hdT 13 (some 48) ?_; refine hdT 14 (some 49) ?_; refine hdT 15 (some 50) ?_; refine hdT 16 (some 51) ?_; refine hdT 17 (some 52) ?_
      refine hdT 18 (some 53) ?_; refine hdT 19 (some 54) ?_ (hy:=by intro w0 hSw; have q0:=hSw.1.cell 3 rfl; go_simp; try with_reducible rfl)
      refine hdT 20 (some 55) ?_ (hy:=by intro w0 hSw; go_simp; all_goals rw [HW2.out]) (v := .int .i64 (22+(gd:Nat)))
      refine hdT 21 (some 56) ?_ (hy:=by intro w0 hSw; go_simp; all_goals simpa using TZ.out) (v := .bool false); refine hdT 22 (some 57) ?_
      refine wpAnyH_done (by kernel_rfl) ?_ 0
      go_wp2
      go_meet
      exact ⟨by rw [HV.out]; rfl,hHeld.1,hHeld.2.1,hHeld.2.2⟩
    · have TZ:Hid (((x.size:Int)==22+(gd:Nat))=false):=Lib.hid (by rw [beq_eq_false_iff_ne]; omega)
      have HV:=Lib.hid (HX3.out.trans (show _=false by simp [e4]))
      clear e1 e2 e4
      refine wp_region_held_drew (S:=fun w'=>Blk w' c [.int .i64 (ga:Nat),.int .i64 (gb:Nat),.int .i64 (gc:Nat),.int .i64 (gd:Nat)] 44∧Blk w' b [.int .i64 0,.int .i64 0,.int .i64 0,.int .i64 0] 44∧Upd [] w w') (by kernel_rfl) ⟨HC.out.drew,HB.out.drew,HU.out.drew⟩ (fun hHeld=>hdN ?_)
      refine hdT 0 (some 35) ?_
      refine hdT 1 (some 36) ?_ (hy:=by intro w0 hSw; go_simp; all_goals (intro hq; exfalso; omega)) (v := .string (x.extract 0 8))
      refine hdT 2 (some 37) ?_ (hy:=by intro w0 hSw; go_simp; all_goals simpa using TM.out) (v := .bool false); refine hdT 3 (some 38) ?_
      refine hdT 4 (some 39) ?_
      refine hdT 5 (some 40) ?_ (hy:=by intro w0 hSw; go_simp; all_goals (intro hq; exfalso; omega)) (v := .string (x.extract 8 10))
      refine hdT 6 (some 41) ?_
      refine hdT 7 (some 42) ?_ (hy:=by intro w0 hSw; go_simp; all_goals (intro hq; exfalso; omega)) (v := .string (x.extract 10 12))
      refine hdT 8 (some 43) ?_ (hy:=by intro w0 hSw; go_simp; all_goals simpa using TS.out) (v := .bool false); refine hdT 9 (some 44) ?_
      refine hdT 10 (some 45) ?_
      refine hdT 11 (some 46) ?_ (hy:=by intro w0 hSw; have qA:=hSw.1.all; go_simp; try with_reducible rfl)
      refine hdO 12 (fun K hK=>?_)
      go_simp
      refine (HRG.out _).mono ?_
      rintro e z1 ⟨rfl,hz1⟩
      go_wp2
      refine hK.out _ _ ⟨hHeld.1.upd hz1 (by simp),hHeld.2.1.upd hz1 (by simp),hHeld.2.2.then hz1⟩ (fun hHeld=>hdN ?_)
      clear hK K
      refine hdT 13 (some 48) ?_; refine hdT 14 (some 49) ?_; refine hdT 15 (some 50) ?_; refine hdT 16 (some 51) ?_; refine hdT 17 (some 52) ?_
      refine hdT 18 (some 53) ?_; refine hdT 19 (some 54) ?_ (hy:=by intro w0 hSw; have q0:=hSw.1.cell 3 rfl; go_simp; try with_reducible rfl)
      refine hdT 20 (some 55) ?_ (hy:=by intro w0 hSw; go_simp; all_goals rw [HW2.out]) (v := .int .i64 (22+(gd:Nat)))
      refine hdT 21 (some 56) ?_ (hy:=by intro w0 hSw; go_simp; all_goals simpa using TZ.out) (v := .bool true); refine hdT 22 (some 57) ?_
      refine wpAnyH_done (by kernel_rfl) ?_ 0
      go_wp2
      go_meet
      exact ⟨by rw [HV.out]; rfl,hHeld.1,hHeld.2.1,hHeld.2.2⟩
 case rest =>
 obtain ⟨rfl,hC,hB,hU⟩:=hcut
 have HBR:=Lib.hid hB
 have HUR:=Lib.hid hU
 have cA:=hC.all
 have kA:=hB.all
 have fA:=hB.frz
 clear hC hB hU HC HB HU HTM HTS HRG HX3
 obtain ⟨E1,E2⟩:=EX
 dsimp only at HX1
 cases E2 with
 | false =>
   have HV:Hid (EP=(EgD.no,false)):=Lib.hid (by rw [HP2.out,HX1.out]; rfl)
   go_wp2
   exact bodyPost_ret (qz rfl _ _ b _ _ _ _ rfl (Blk.set4 HBR.out _ _ _ _)) rfl ⟨by rw [HV.out]; rfl,Upd.set4 HUR.out (.inr HWB.out) _ _ _ _⟩
 | true =>
   have HV:Hid (EP=(EO,true)):=Lib.hid (by rw [HP2.out,HX1.out]; rfl)
   go_wp2
   exact bodyPost_ret (qz rfl _ _ b _ _ _ _ rfl (Blk.set4 HBR.out _ _ _ _)) rfl ⟨by rw [HV.out]; show _=Ending.returned (.tuple #[EO.v,.bool true]); rw [HOF.out]; rfl,Upd.set4 HUR.out (.inr HWB.out) _ _ _ _⟩
end Go.Proofs.YtigjingielnaoaaGreatDoor
