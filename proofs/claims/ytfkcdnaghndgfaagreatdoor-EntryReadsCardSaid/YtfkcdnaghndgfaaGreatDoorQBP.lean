/- Package block: Made: its walk. -/
import Derived.Test.YtfkcdnaghndgfaaGreatDoorQBO
import Derived.Test.YtfkcdnaghndgfaaGreatDoorQAR
import Derived.Lib.MinMax
import Derived.Test.YtfkcdnaghndgfaaGreatDoorQAB
set_option linter.unusedVariables false
set_option linter.unusedSimpArgs false
set_option linter.unusedSectionVars false
namespace Go.Proofs.YtfkcdnaghndgfaaGreatDoor
open Go.RowKit
attribute [local go_sem] Oper.semAt_some
theorem Ya:(Tryz.prog.info? 177).map (·.size)=some 4:=by kernel_rfl
theorem zaW {many:List Int} {n:Nat} {u:List Nat} (h:IsUsed many n u):u.length=(xB many n).length:=by
 refine List.Perm.length_eq ?_
 refine (List.perm_ext_iff_of_nodup h.nodup (List.Pairwise.filter _ List.nodup_range)).2 (fun i=>?_)
 rw [h.mem i]
 exact (xY many n i).symm
def ji (c:List Nat):List Nat:=if (xB (ints c) 19).length=1 then (if c.getD 0 0=0 then c.set 0 1 else c.set 1 1) else c
theorem XA (c:List Nat):(ji c).length=c.length:=by
 unfold ji
 split
 · split<;>simp
 · rfl
structure MadeO (l:List Tok) (lits backs:List Nat) (steps:List StpD) (lens:List Nat):Prop where
 a : ∃ u m,IsUsed (ints (zo l).1) 286 u∧TrimO (ofL (ints (zo l).1) u 15 286) 257 286 m∧lits=(ofL (ints (zo l).1) u 15 286).take m
 b : ∃ u m,IsUsed (ints (zo l).2) 30 u∧TrimO (ofL (ints (zo l).2) u 15 30) 1 30 m∧backs=(ofL (ints (zo l).2) u 15 30).take m
 s:steps=ofS (lits.length+backs.length) (ints (lits++backs)) (-1)
 c : ∃ u,IsUsed (ints (ji (zB steps))) 19 u∧lens=ofL (ints (ji (zB steps))) u 7 19
theorem JH {many:List Int} {u:List Nat} {L n:Nat} (hn:many.length=n) (hu:IsUsed many n u) (h1:1≤L) (h15:L≤15) (hk:u.length≤2^L) : ∀ x∈ofL many u L n,x≤L:=by
 intro x hx
 have hf:=Je hn hu L h1 h15 hk
 obtain ⟨i,hi,rfl⟩:=List.getElem_of_mem hx
 have:=hf.le i (by rw [← hf.len]; exact hi)
 rw [List.getD_eq_getElem?_getD,List.getElem?_eq_getElem hi] at this
 exact this
theorem Yd {many:List Int} {u:List Nat} {k n:Nat} {w:World} {v:Value} {w':World} (h:zig many u (k:Int) n w v w') (h1:1≤k) (h15:k≤15) (hn:n≤300) (hu:u.length≤2^k) :
 ∃ ob,v = .slice (some ⟨ob,0,none⟩) n n∧w.heap.size≤ob∧Blk w' ob (zf (ofL many u k n)) 3:=by
 rcases h with ⟨hb,_⟩ | ⟨_,ob,e,hs,hB⟩
 · exfalso
   unfold Wt at hb
   rw [show (k:Int).toNat=k by omega] at hb
   omega
 · rw [show (k:Int).toNat=k by omega] at hB
   exact ⟨ob,e,hs,hB⟩
theorem zfI {w:World} {ob:Nat} {l:List Nat} {t:TypeId} (hB:Blk w ob (zf l) t) : ∀ j,(h:j<l.length)→w.cell? ⟨ob,0+j,none⟩=some (.int .i64 (l[j]:Nat)):=fun j h=>by
 rw [Nat.zero_add]
 exact hB.cell j (zt l j _ (List.getElem?_eq_getElem h))
def ziT (l:List Tok) (w:World) (e:Ending) (w':World):Prop := ∃ (g1 c1 g2 c2 g4:Nat) (v3:Value) (lits backs lens:List Nat) (steps:List StpD),
 e = .returned (.agg #[.slice (some ⟨g1,0,none⟩) lits.length c1,.slice (some ⟨g2,0,none⟩) backs.length c2,v3,.slice (some ⟨g4,0,none⟩) 19 19])∧MadeO l lits backs steps lens ∧
 Row w' 3 1 (.slice (some ⟨g1,0,none⟩) lits.length c1) lits.length (zf lits)∧Row w' 3 1 (.slice (some ⟨g2,0,none⟩) backs.length c2) backs.length (zf backs)∧Row w' 217 3 v3 steps.length (jj steps)∧Blk w' g4 (zf lens) 3∧Upd [] w w'
theorem zb0 : ∀ (f:Nat) (r:List Int) (a:Int),(ofS f r a).length≤f
 | 0,_,_=>Nat.le_refl _
 | f+1,r,a=>by
   rw [jP]
   split
   · exact Nat.zero_le _
   · rw [List.length_cons]; have:=zb0 f (r.drop (yg r a).2) (r.getD ((yg r a).2-1) 0); omega
set_option maxRecDepth 100000 in
set_option maxHeartbeats 12800000 in
theorem Wh (l:List Tok) (a:Option Addr) (n cap:Nat) (w:World) (hI:TokIn w a n l) (hn:n≤100000) (hok : ∀ t∈l,zH t) :
 Calls Tryz.prog 124 #[.slice a n cap] w fun e w'=>ziT l w e w':=by
 obtain ⟨i0,hi,hz0,hz1,hz2⟩:=info_parts qr
 have hB1:=Blk.new w [.slice none 0 0,.slice none 0 0,.slice none 0 0,.slice none 0 0] 177
 have hU1:=(Upd.refl [] w).alloc (.cells #[.slice none 0 0,.slice none 0 0,.slice none 0 0,.slice none 0 0] 177)
 have HMA:=Lib.hid (WO l a n cap _ (hI.pure hU1) hn hok)
 have HMO:=Lib.hid (by have:=qt l l.length (Nat.le_refl _); rw [List.take_length] at this; exact this)
 have HLN:=Lib.hid hI.len
 have HB1:=Lib.hid hB1
 have HU1:=Lib.hid hU1
 clear hI hok hB1 hU1
 go_enter Tryz.func124,Tryz.ntmps124
 go_upto_region 1 with fail
 change Code.wp _ _ _ _ (w.alloc (.cells #[.slice none 0 0,.slice none 0 0,.slice none 0 0,.slice none 0 0] 177))
 generalize w.alloc (.cells #[.slice none 0 0,.slice none 0 0,.slice none 0 0,.slice none 0 0] 177)=w1 at *
 obtain ⟨bp,hbp⟩ : ∃ bp,w.heap.size=bp:=⟨_,rfl⟩
 rw [hbp] at HB1 ⊢
 have HBQ:=Lib.hid hbp
 clear hbp
 have HMD:Hid (∀ lits backs steps lens,(∃ u m,IsUsed (ints (zo l).1) 286 u∧TrimO (ofL (ints (zo l).1) u 15 286) 257 286 m∧lits=(ofL (ints (zo l).1) u 15 286).take m)→(∃ u m,IsUsed (ints (zo l).2) 30 u∧TrimO (ofL (ints (zo l).2) u 15 30) 1 30 m∧backs=(ofL (ints (zo l).2) u 15 30).take m)→steps=ofS (lits.length+backs.length) (ints (lits++backs)) (-1)→(∃ u,IsUsed (ints (ji (zB steps))) 19 u∧lens=ofL (ints (ji (zB steps))) u 7 19)→MadeO l lits backs steps lens):=Lib.hid (fun _ _ _ _ h1 h2 h3 h4=>⟨h1,h2,h3,h4⟩)
 unfold zfn at HMA
 generalize zo l=p at *
 obtain ⟨pa,pb⟩:=p
 dsimp only at HMA HMD
 have hla:pa.length=286:=HMO.out.la
 have hlb:pb.length=30:=HMO.out.lb
 have HPA:Hid (∀ v∈pa,v≤9223372036854775807):=Lib.hid (fun v hv=>by have:=HMO.out.ba v hv; have:=HLN.out; omega)
 have HPB:Hid (∀ v∈pb,v≤9223372036854775807):=Lib.hid (fun v hv=>by have:=HMO.out.bb v hv; have:=HLN.out; omega)
 have HLA:=Lib.hid hla
 have HLB:=Lib.hid hlb
 have HIL:Hid ((ints pa).length=286):=Lib.hid (by simp [ints,hla])
 have HIB:Hid ((ints pb).length=30):=Lib.hid (by simp [ints,hlb])
 clear hla hlb HMO
 go_wp2_with fail
 refine HMA.out.mono ?_
 rintro e w2 ⟨oa,ob,rfl,hA,hB,hoa,hob,_,hU2⟩
 have hbl1:=HB1.out.lt
 have hoab:bp<oa∧bp<ob:=⟨by omega,by omega⟩
 clear hoa hob hbl1
 have HIA:=Lib.hid (IntsIn.blk hA HLA.out HPA.out)
 have HIB2:=Lib.hid (IntsIn.blk hB HLB.out HPB.out)
 have HB2:=Lib.hid (HB1.out.upd hU2 (by simp))
 have HU2:=Lib.hid (HU1.out.then hU2)
 have HOF:=Lib.hid (zcG (ints pa) (some ⟨oa,0,none⟩) 286 286 ((15:Nat):Int) w2 HIA.out (by omega))
 clear hA hB hU2 HMA HB1 HU1
 go_wp2_with fail
 refine HOF.out.mono ?_
 rintro e w3 ⟨v1,u1,rfl,hu1,hof,hU3⟩
 rw [HIL.out] at hu1
 have hu1l:u1.length≤2^15:=by have:=hu1.le; omega
 obtain ⟨o1,rfl,_,hO1⟩:=Yd hof (by omega) (by omega) (by omega) hu1l
 have HF1:=Lib.hid (qT (ints pa) u1 15 286)
 have HX1:=Lib.hid (JH HIL.out hu1 (L:=15) (by omega) (by omega) hu1l)
 have HUS1:=Lib.hid hu1
 have HTR:=Lib.hid (zaL (ofL (ints pa) u1 15 286) o1 0 286 286 257 w3 HF1.out (Nat.le_refl _) (zfI hO1) (by omega))
 have HB3:=Lib.hid (HB2.out.upd hU3 (by simp))
 have HU3:=Lib.hid (HU2.out.then hU3)
 have HIB3:=Lib.hid (HIB2.out.pure hU3)
 clear hof hu1 hu1l hO1 hU3 HB2 HU2 HIB2 HOF HIA
 go_wp2_with fail
 refine HTR.out.mono ?_
 rintro e w4 ⟨v1,m1,rfl,hT1,hO1,hU4⟩
 have HL1:Hid (((ofL (ints pa) u1 15 286).take m1).length=m1):=Lib.hid (by rw [List.length_take,HF1.out]; exact Nat.min_eq_left hT1.le)
 have hm1:257≤m1∧m1≤286:=⟨by have:=hT1.few; omega,hT1.le⟩
 have hR1:=hO1.1
 rw [zl,HL1.out] at hR1
 obtain ⟨g1,c1,rfl,_,hcap1⟩:=hR1.form' (by omega)
 have HBD1:Hid (∀ x∈(ofL (ints pa) u1 15 286).take m1,x≤15):=Lib.hid (fun x hx=>HX1.out x (List.mem_of_mem_take hx))
 have HMD1:Hid (∃ u m,IsUsed (ints pa) 286 u∧TrimO (ofL (ints pa) u 15 286) 257 286 m∧(ofL (ints pa) u1 15 286).take m1=(ofL (ints pa) u 15 286).take m):=Lib.hid ⟨u1,m1,HUS1.out,hT1,rfl⟩
 have HR1:=Lib.hid hR1
 have hb4:=HB3.out.upd hU4 (by simp)
 have k0:=hb4.cell 0 rfl
 have f0:=hb4.frz 0
 have HB4:=Lib.hid (hb4.set 0 (.slice (some ⟨g1,0,none⟩) m1 c1))
 have HU4:=Lib.hid ((HU3.out.then hU4).setCell (p:=⟨bp,0,none⟩) (.inr (by have:=HBQ.out; show w.heap.size≤bp; omega)) (.slice (some ⟨g1,0,none⟩) m1 c1))
 have hg1:bp<g1:=by
  have h1:=hO1.2 g1 rfl
  have:=HB3.out.lt
  omega
 have HUs4:Hid (Upd [bp] w4 (w4.setCell ⟨bp,0,none⟩ (.slice (some ⟨g1,0,none⟩) m1 c1))):=Lib.hid ((Upd.refl [bp] w4).setCell (.inl (by simp)) _)
 have HR1s:=Lib.hid (hR1.upd HUs4.out (by simp [Value.ownBlock]; omega))
 have HIB4:=Lib.hid ((HIB3.out.pure hU4).upd HUs4.out (fun b off e=>by cases e; simp; omega))
 have HOF2:=Lib.hid (zcG (ints pb) (some ⟨ob,0,none⟩) 30 30 ((15:Nat):Int) (w4.setCell ⟨bp,0,none⟩ (.slice (some ⟨g1,0,none⟩) m1 c1)) HIB4.out (by omega))
 clear hT1 hO1 hU4 hR1 hcap1 HB3 HU3 HIB3 HTR HX1 HF1 HUS1 HR1 hb4 HIB4
 go_wp2_with fail
 refine HOF2.out.mono ?_
 rintro e w5 ⟨v2,u2,rfl,hu2,hof,hU5⟩
 rw [HIB.out] at hu2
 have hu2l:u2.length≤2^15:=by have:=hu2.le; omega
 obtain ⟨o2,rfl,_,hO2⟩:=Yd hof (by omega) (by omega) (by omega) hu2l
 have HF2:=Lib.hid (qT (ints pb) u2 15 30)
 have HX2:=Lib.hid (JH HIB.out hu2 (L:=15) (by omega) (by omega) hu2l)
 have HUS2:=Lib.hid hu2
 have HTR:=Lib.hid (zaL (ofL (ints pb) u2 15 30) o2 0 30 30 1 w5 HF2.out (Nat.le_refl _) (zfI hO2) (by omega))
 have HB5:=Lib.hid (HB4.out.upd hU5 (by simp))
 have HU5:=Lib.hid (HU4.out.then hU5)
 have HR15:=Lib.hid (HR1s.out.upd hU5 (by simp))
 clear hof hu2 hu2l hO2 hU5 HB4 HU4 HOF2 HR1s k0 f0 HUs4
 go_wp2_with fail
 refine HTR.out.mono ?_
 rintro e w6 ⟨v2,m2,rfl,hT2,hO2,hU6⟩
 have HL2:Hid (((ofL (ints pb) u2 15 30).take m2).length=m2):=Lib.hid (by rw [List.length_take,HF2.out]; exact Nat.min_eq_left hT2.le)
 have hm2:1≤m2∧m2≤30:=⟨by have:=hT2.few; omega,hT2.le⟩
 have hR2:=hO2.1
 rw [zl,HL2.out] at hR2
 obtain ⟨g2,c2,rfl,_,hcap2⟩:=hR2.form' (by omega)
 have HBD2:Hid (∀ x∈(ofL (ints pb) u2 15 30).take m2,x≤15):=Lib.hid (fun x hx=>HX2.out x (List.mem_of_mem_take hx))
 have HMD2:Hid (∃ u m,IsUsed (ints pb) 30 u∧TrimO (ofL (ints pb) u 15 30) 1 30 m∧(ofL (ints pb) u2 15 30).take m2=(ofL (ints pb) u 15 30).take m):=Lib.hid ⟨u2,m2,HUS2.out,hT2,rfl⟩
 have hb6:=HB5.out.upd hU6 (by simp)
 have k1:=hb6.cell 1 rfl
 have f1:=hb6.frz 1
 have HBP:=Lib.hid (hb6.set 1 (.slice (some ⟨g2,0,none⟩) m2 c2))
 have HUW:=Lib.hid ((HU5.out.then hU6).setCell (p:=⟨bp,1,none⟩) (.inr (by have:=HBQ.out; show w.heap.size≤bp; omega)) (.slice (some ⟨g2,0,none⟩) m2 c2))
 have hg2:bp<g2:=by
  have h1:=hO2.2 g2 rfl
  have:=HB5.out.lt
  omega
 have HUs6:Hid (Upd [bp] w6 (w6.setCell ⟨bp,1,none⟩ (.slice (some ⟨g2,0,none⟩) m2 c2))):=Lib.hid ((Upd.refl [bp] w6).setCell (.inl (by simp)) _)
 have HLR1:=Lib.hid ((HR15.out.upd hU6 (by simp)).upd HUs6.out (by simp [Value.ownBlock]; omega))
 have HLR2:=Lib.hid (hR2.upd HUs6.out (by simp [Value.ownBlock]; omega))
 clear hT2 hO2 hU6 hR2 hcap2 HB5 HU5 HTR HX2 HF2 HUS2 hb6 HR15 HUs6
 simp only [List.set_cons_zero,List.set_cons_succ] at HBP
 generalize (ofL (ints pa) u1 15 286).take m1=lits at *
 generalize (ofL (ints pb) u2 15 30).take m2=backs at *
 go_upto_region 4 with fail
 change Code.wp _ _ _ _ (w6.setCell ⟨bp,1,none⟩ (.slice (some ⟨g2,0,none⟩) m2 c2))
 generalize w6.setCell ⟨bp,1,none⟩ (.slice (some ⟨g2,0,none⟩) m2 c2)=W at *
 clear k1 f1
 have k0:=HBP.out.cell 0 rfl
 have k1:=HBP.out.cell 1 rfl
 have HBD:Hid (∀ x∈lits++backs,x≤15):=Lib.hid (fun x hx=>by rcases List.mem_append.1 hx with h | h; exact HBD1.out x h; exact HBD2.out x h)
 have HLL1:Hid ((zf lits).length=m1*1):=Lib.hid (by rw [zl,HL1.out,Nat.mul_one])
 have HLL2:Hid ((zf backs).length=m2*1):=Lib.hid (by rw [zl,HL2.out,Nat.mul_one])
 have HBPL:Hid (bp<W.heap.size):=Lib.hid HBP.out.lt
 have hbpl:=HBP.out.lt
 refine wp_region_held_drew (S:=fun w'=>HC [bp] W [(⟨bp,0,none⟩,.slice (some ⟨g1,0,none⟩) m1 c1),(⟨bp,1,none⟩,.slice (some ⟨g2,0,none⟩) m2 c2)] w') (by kernel_rfl) (HC.of (fp:=[bp]) (W:=W) (fs:=[(⟨bp,0,none⟩,.slice (some ⟨g1,0,none⟩) m1 c1),(⟨bp,1,none⟩,.slice (some ⟨g2,0,none⟩) m2 c2)]) ⟨k0,k1,trivial⟩).drew (fun hHeld=>hdN ?_)
 refine hdT 1 (some 20) ?_
 refine hdT 2 (some 21) ?_ (hy:=by intro w hSw; have q0:=hSw.cells.1; dsimp only at q0; clear hSw; go_simp; try with_reducible rfl)
 refine hdT 4 (some 23) ?_
 refine hdT 5 (some 24) ?_ (hy:=by intro w hSw; have q0:=hSw.cells.2.1; dsimp only at q0; clear hSw; go_simp; try with_reducible rfl)
 refine hdO 0 (fun K hK=>?_)
 go_simp
 skip
 go_wp2
 refine hK.out _ _ (HC.alloc hHeld _) (fun hHeld=>hdN ?_)
 clear hK K
 refine hdO 3 (fun K hK=>?_)
 have HN1:Hid (∀ j u,(zf lits)[j]? =some u→(W.drew.alloc (.cells #[] 3)).cell? ((⟨g1,0,none⟩:Addr).add j)=some u):=Lib.hid (fun j u hj=>by rw [kz,Nat.zero_add]; exact (((Upd.refl [] W).drew).alloc (.cells #[] 3)).keep (HLR1.out.cell j hj))
 refine je _ rfl _ _ 98 rfl 3 i0 _ 1 8 Tryz.underlying98 hi hz0 hz1 hz2 rfl (by omega) (.slice (some ⟨W.heap.size,0,none⟩) 0 0) (0) ([]) rfl (Row.new W.drew [] 3 0 1 (by unfold maxLen; omega) rfl) (⟨g1,0,none⟩) (m1) (c1) (zf lits) rfl (HLL1.out) (HN1.out) (yZ _) (by unfold maxLen; omega) (by omega) ?_
 intro v4 z4 hR4 hU4 hT4
 go_wp2
 refine hK.out _ _ (hHeld.thenF hU4 (fun k hk => .inr (by simp [Value.ownBlock] at hk; omega)) (by simp [Value.ownBlock]; omega)) (fun hHeld=>?_)
 clear hK K
 change wpAnyH _ _ _ _ _ _ _ (Act.put _ (some 22) _) _
 refine hdN ?_
 have HO4:Hid (∀ k,v4.ownBlock=some k→W.heap.size≤k):=Lib.hid (fun k hk=>by
  rcases hT4 with h | ⟨g,h1,h2⟩
  · rw [hk] at h; simp [Value.ownBlock] at h; omega
  · rw [hk] at h1; cases h1; have h9:=(((Upd.refl [] W).drew).alloc (.cells #[] 3)).size; exact Nat.le_trans h9 h2)
 have HR4:=Lib.hid hR4
 have hU40:Upd [] W z4:=((((Upd.refl [] W).drew).alloc _).trans hU4 (fun k hk => .inr (by simp [Value.ownBlock] at hk; omega)))
 have HU40:=Lib.hid hU40
 clear hR4 hU4 hT4 HN1 hU40
 refine hdO 6 (fun K hK=>?_)
 have HN2:Hid (∀ j u,(zf backs)[j]? =some u→z4.cell? ((⟨g2,0,none⟩:Addr).add j)=some u):=Lib.hid (fun j u hj=>by rw [kz,Nat.zero_add]; exact HU40.out.keep (HLR2.out.cell j hj))
 refine je _ rfl _ _ 98 rfl 3 i0 _ 1 8 Tryz.underlying98 hi hz0 hz1 hz2 rfl (by omega) (v4) (0+m1) ([]++zf lits) rfl (HR4.out) (⟨g2,0,none⟩) (m2) (c2) (zf backs) rfl (HLL2.out) (HN2.out) (yZ _) (by unfold maxLen; omega) (by omega) ?_
 intro v5 z5 hR5 hU5 hT5
 go_wp2
 refine hK.out _ _ (hHeld.thenF hU5 (fun k hk => .inr (HO4.out k (by simpa using hk))) (fun x hx=>by have hbp:=HBPL.out; simp at hx; rcases hx with rfl | rfl<;>(intro hk; have:=HO4.out _ (by simpa using hk); omega))) (fun hHeld=>?_)
 clear hK K
 change wpAnyH _ _ _ _ _ _ _ (Act.put _ (some 25) _) _
 refine hdN ?_
 have hR5':Row z5 3 1 v5 (m1+m2) (zf (lits++backs)):=by
  have e:zf (lits++backs)=[]++zf lits++zf backs:=by simp [zf]
  rw [e]
  rw [Nat.zero_add] at hR5
  exact hR5
 obtain ⟨g5,c5,rfl,_,hcap5⟩:=hR5'.form' (by omega)
 have HRU:=Lib.hid (zdH (ints (lits++backs)) (some ⟨g5,0,none⟩) (m1+m2) c5 z5 (IntsIn.row hR5' (fun x hx=>by have:=HBD.out x hx; omega)) (by omega) hcap5 (fun x hx=>by obtain ⟨y,hy,rfl⟩:=List.mem_map.1 hx; have:=HBD.out y hy; omega))
 have HU50:=Lib.hid (HU40.out.trans hU5 (fun k hk => .inr (HO4.out k (by simpa using hk))))
 clear hR5 hR5' hU5 hT5 HR4 HO4 HN2 hcap5
 refine hdO 7 (fun K hK=>?_)
 go_simp
 refine HRU.out.mono ?_
 rintro e z6 ⟨v6,rfl,hR6,hO6,hU6⟩
 go_wp2
 refine hK.out _ _ (hHeld.then hU6) (fun hHeld=>hdN ?_)
 clear hK K
 obtain ⟨va6,vc6,rfl⟩:=hR6.form
 have hb6:=(HBP.out.upd HU50.out (by simp)).upd hU6 (by simp)
 have k6:=hb6.cell 2 rfl
 have f6:=hb6.frz 2
 have HB6:=Lib.hid hb6
 have HU6:=Lib.hid (HU50.out.then hU6)
 have HR6:=Lib.hid hR6
 have HO6:Hid (∀ k,(Value.slice va6 (ofS (m1+m2) (ints (lits++backs)) (-1)).length vc6).ownBlock=some k→W.heap.size≤k):=Lib.hid (fun k hk=>by have:=hO6 k hk; have:=HU50.out.size; omega)
 clear hb6 hR6 hO6 hU6 HRU
 refine hdT 8 (some 27) ?_
 refine hdO 9 (fun K hK=>?_)
 go_simp
 skip
 go_wp2
 refine hK.out _ _ (hHeld.set _ _ (.inl (by simp)) (by simp)) (fun hHeld=>hdN ?_)
 clear hK K
 refine wpAnyH_done (by kernel_rfl) ?_ 0
 skip
 clear hHeld k6 f6 HBP k0 k1
 have HSE:Hid (ofS (m1+m2) (ints (lits++backs)) (-1)=ofS (lits.length+backs.length) (ints (lits++backs)) (-1)):=Lib.hid (by rw [HL1.out,HL2.out])
 have HSL:Hid ((ofS (m1+m2) (ints (lits++backs)) (-1)).length≤316):=Lib.hid (Nat.le_trans (zb0 _ _ _) (by omega))
 generalize ofS (m1+m2) (ints (lits++backs)) (-1)=steps at *
 have HB7:Hid (Blk (z6.setCell ⟨bp,2,none⟩ (.slice va6 steps.length vc6)) bp [.slice (some ⟨g1,0,none⟩) m1 c1,.slice (some ⟨g2,0,none⟩) m2 c2,.slice va6 steps.length vc6,.slice none 0 0] 177):=Lib.hid (HB6.out.set 2 (.slice va6 steps.length vc6))
 have HU7:Hid (Upd [bp] W (z6.setCell ⟨bp,2,none⟩ (.slice va6 steps.length vc6))):=Lib.hid ((HU6.out.mono (by simp)).setCell (.inl (by simp)) _)
 have HR7:=Lib.hid (HR6.out.setFar (a:=⟨bp,2,none⟩) (.slice va6 steps.length vc6) (fun e=>by have:=HO6.out _ e; dsimp only at this; omega))
 have HO7:Hid (∀ k,(Value.slice va6 steps.length vc6).ownBlock=some k→k≠bp):=Lib.hid (fun k e=>by have:=HO6.out k e; omega)
 clear HB6 HU6 HR6 HO6 HU50 HU40
 go_upto_region 5 with fail
 change Code.wp _ _ _ _ (z6.setCell ⟨bp,2,none⟩ (.slice va6 steps.length vc6))
 generalize z6.setCell ⟨bp,2,none⟩ (.slice va6 steps.length vc6)=w7 at *
 have k2:=HB7.out.cell 2 rfl
 have HCN:=Lib.hid (KI steps va6 steps.length vc6 w7 (StpIn.row HR7.out rfl) (by have:=HSL.out; omega))
 go_wp2_with fail
 refine HCN.out.mono ?_
 rintro e w8 ⟨rfl,hU8⟩
 have HB8:=Lib.hid (HB7.out.upd hU8 (by simp))
 have HU8:=Lib.hid (HU7.out.trans (fp':=[]) hU8 (by simp))
 have HR8:=Lib.hid (HR7.out.upd hU8 (by simp))
 have hcl:(zB steps).length=19:=by have:=(qP steps steps.length (Nat.le_refl _)).1; rwa [List.take_length] at this
 have hcb : ∀ x∈zB steps,x≤316:=fun x hx=>by have:=(qP steps steps.length (Nat.le_refl _)).2; rw [List.take_length] at this; have:=this x hx; have:=HSL.out; omega
 have HC19:Hid ((zf (zB steps)).length=19):=Lib.hid (by rw [zl,hcl])
 have HFX:Hid (ji (zB steps)=if (xB (ints (zB steps)) 19).length=1 then (if (zB steps).getD 0 0=0 then (zB steps).set 0 1 else (zB steps).set 1 1) else zB steps):=Lib.hid rfl
 have HFL:Hid ((ji (zB steps)).length=19):=Lib.hid (by rw [XA,hcl])
 have HFB:Hid (∀ x∈ji (zB steps),x≤316):=Lib.hid (fun x hx=>by
  have hm : ∀ i,x∈(zB steps).set i 1→x≤316:=fun i h=>by rcases List.mem_or_eq_of_mem_set h with h1 | h1; exact hcb x h1; omega
  unfold ji at hx
  split at hx
  · split at hx
    · exact hm _ hx
    · exact hm _ hx
  · exact hcb x hx)
 have HCL:=Lib.hid hcl
 have HCB:=Lib.hid hcb
 have HMDs:Hid (∀ lens,(∃ u,IsUsed (ints (ji (zB steps))) 19 u∧lens=ofL (ints (ji (zB steps))) u 7 19)→MadeO l lits backs steps lens):=Lib.hid (fun lens h=>HMD.out lits backs steps lens HMD1.out HMD2.out HSE.out h)
 generalize ji (zB steps)=f at *
 generalize zB steps=c at *
 have hBq:=Blk.new w8 (zf (List.replicate 19 0)) 212
 have hbq8:=HB8.out.lt
 have hUa8:=(Upd.refl [] w8).alloc (.cells (zf (List.replicate 19 0)).toArray 212)
 clear hU8 HB7 HU7 HR7 HCN k2 hcl hcb HMD HMD1 HMD2 HSE HSL
 go_wp2_with (refine zs rfl 212 _ _ rfl w8.heap.size rfl (zf c) rfl 212 _ hBq (by rw [zl,List.length_replicate]; kernel_rfl) (by rw [HC19.out,zl,List.length_replicate]) (yZ _) ?_; intro w9 hB9 hU9)
 have hU89:Upd [] w8 w9:=hUa8.trans hU9 (fun k hk=>by simp at hk; right; omega)
 have HU9:=Lib.hid (HU8.out.trans (fp':=[]) hU89 (by simp))
 have HB9:=Lib.hid (HB8.out.upd hU89 (by simp))
 have HR9:=Lib.hid (HR8.out.upd hU89 (by simp))
 have HQ10:Hid (W.heap.size≤w8.heap.size∧w8.heap.size≠bp∧(∀ k,(Value.slice va6 steps.length vc6).ownBlock=some k→k≠w8.heap.size)):=Lib.hid ⟨HU8.out.size,Nat.ne_of_gt hbq8,fun k e=>Nat.ne_of_lt (HR8.out.lt k e)⟩
 generalize w8.heap.size=q at *
 have HBq9:=Lib.hid hB9
 have HIc:=Lib.hid (IntsIn.blk hB9 HCL.out (fun x hx=>by have:=HCB.out x hx; omega))
 have HUSD:=Lib.hid (WD (ints c) (some ⟨q,0,none⟩) 19 19 w9 HIc.out (by omega))
 clear hBq hUa8 hB9 hU9 hU89 HB8 HU8 HR8
 go_wp2_with fail
 refine HUSD.out.mono ?_
 rintro e w10 ⟨v10,u10,rfl,hu10,hO10,hU10⟩
 obtain ⟨a10,c10,rfl⟩:=hO10.form
 rw [zl]
 have hK:(xB (ints c) 19).length=u10.length:=by
  rw [show (ints c).length=19 by simp [ints,HCL.out]] at hu10
  exact (zaW hu10).symm
 have HKK:=Lib.hid hK
 have HU10:=Lib.hid (HU9.out.trans (fp':=[]) hU10 (by simp))
 have HB10:=Lib.hid (HB9.out.upd hU10 (by simp))
 have HR10:=Lib.hid (HR9.out.upd hU10 (by simp))
 have HBq10:=Lib.hid (HBq9.out.upd hU10 (by simp))
 generalize u10.length=K at *
 clear hK hu10 hO10 hU10 HU9 HB9 HR9 HBq9 HIc HUSD
 go_upto_if 34 with fail
 go_cut [] (fun wx=>Hid (Blk wx q (zf f) 212)∧Hid (Upd [bp] W wx)∧Hid (Blk wx bp [.slice (some ⟨g1,0,none⟩) m1 c1,.slice (some ⟨g2,0,none⟩) m2 c2,.slice va6 steps.length vc6,.slice none 0 0] 177)∧Hid (Row wx 217 3 (.slice va6 steps.length vc6) steps.length (jj steps)))
 case first =>
  by_cases hK1:K=1
  · have hKz:(K:Int)=1:=by omega
    have hgt:c[0]? =some (c.getD 0 0):=by rw [List.getD_eq_getElem?_getD,List.getElem?_eq_getElem (by rw [HCL.out]; omega)]; rfl
    have c0:=HBq10.out.cell 0 (zt c 0 _ hgt)
    have hgt1:c[1]? =some (c.getD 1 0):=by rw [List.getD_eq_getElem?_getD,List.getElem?_eq_getElem (by rw [HCL.out]; omega)]; rfl
    have c1':=HBq10.out.cell 1 (zt c 1 _ hgt1)
    have f0:=HBq10.out.frz 0
    have f1:=HBq10.out.frz 1
    have HX0:Hid (c.getD 0 0=c.getD 0 0):=Lib.hid rfl
    obtain ⟨x0,hx0⟩ : ∃ x,c.getD 0 0=x:=⟨_,rfl⟩
    rw [hx0] at c0
    have HXE:=Lib.hid hx0
    clear hgt hgt1 hx0
    by_cases hz:x0=0
    · have hzz:(x0:Int)=0:=by omega
      have HF:Hid (f=c.set 0 1):=Lib.hid (by rw [HFX.out,HKK.out,if_pos hK1,if_pos (by rw [HXE.out]; exact hz)])
      have HB1:=Lib.hid (HBq10.out.set 0 (.int .i64 1))
      have HB2:=Lib.hid (HB10.out.setFar (a:=⟨q,0,none⟩) (.int .i64 1) (Ne.symm HQ10.out.2.1))
      have HR2:=Lib.hid (HR10.out.setFar (a:=⟨q,0,none⟩) (.int .i64 1) (fun e=>HQ10.out.2.2 q e rfl))
      have HU2:=Lib.hid (HU10.out.setCell (p:=⟨q,0,none⟩) (.inr HQ10.out.1) (.int .i64 1))
      go_wp2
      go_meet
      exact ⟨Lib.hid (by rw [HF.out,xc]; exact HB1.out),HU2,HB2,HR2⟩
    · have hzz : ¬ (x0:Int)=0:=by omega
      have HF:Hid (f=c.set 1 1):=Lib.hid (by rw [HFX.out,HKK.out,if_pos hK1,if_neg (by rw [HXE.out]; exact hz)])
      have HB1:=Lib.hid (HBq10.out.set 1 (.int .i64 1))
      have HB2:=Lib.hid (HB10.out.setFar (a:=⟨q,1,none⟩) (.int .i64 1) (Ne.symm HQ10.out.2.1))
      have HR2:=Lib.hid (HR10.out.setFar (a:=⟨q,1,none⟩) (.int .i64 1) (fun e=>HQ10.out.2.2 q e rfl))
      have HU2:=Lib.hid (HU10.out.setCell (p:=⟨q,1,none⟩) (.inr HQ10.out.1) (.int .i64 1))
      go_wp2
      go_meet
      exact ⟨Lib.hid (by rw [HF.out,xc]; exact HB1.out),HU2,HB2,HR2⟩
  · have hKz : ¬ (K:Int)=1:=by omega
    have HF:Hid (f=c):=Lib.hid (by rw [HFX.out,HKK.out,if_neg hK1])
    go_wp2
    go_meet
    exact ⟨Lib.hid (by rw [HF.out]; exact HBq10.out),HU10,HB10,HR10⟩
 case rest =>
  obtain ⟨HBq,HU,HB,HR⟩:=hcut
  have HIf:=Lib.hid (IntsIn.blk HBq.out HFL.out (fun x hx=>by have:=HFB.out x hx; omega))
  have HIL19:Hid ((ints f).length=19):=Lib.hid (by simp [ints,HFL.out])
  have HOF:=Lib.hid (zcG (ints f) (some ⟨q,0,none⟩) 19 19 ((7:Nat):Int) wc HIf.out (by omega))
  clear HBq10 HU10 HB10 HR10 HFX HKK HIf HCB HC19
  go_wp2_with fail
  refine HOF.out.mono ?_
  rintro e w11 ⟨v4,u4,rfl,hu4,hof,hU11⟩
  rw [HIL19.out] at hu4
  obtain ⟨o4,rfl,ho4,hO4⟩:=Yd hof (by omega) (by omega) (by omega) (by have:=hu4.le; omega)
  have HMF:=Lib.hid (HMDs.out _ ⟨u4,hu4,rfl⟩)
  have hbw:=HB.out.lt
  have hb11:=HB.out.upd hU11 (by simp)
  have k3:=hb11.cell 3 rfl
  have f3:=hb11.frz 3
  have hB12:=hb11.set 3 (.slice (some ⟨o4,0,none⟩) 19 19)
  simp only [List.set_cons_zero,List.set_cons_succ] at hB12
  have HU12:=Lib.hid ((HU.out.trans (fp':=[]) hU11 (by simp)).setCell (p:=⟨bp,3,none⟩) (.inl (by simp)) (.slice (some ⟨o4,0,none⟩) 19 19))
  have HR12:=Lib.hid ((HR.out.upd hU11 (by simp)).setFar (a:=⟨bp,3,none⟩) (.slice (some ⟨o4,0,none⟩) 19 19) (fun e=>HO7.out _ e rfl))
  have HO12:=Lib.hid (hO4.setFar (a:=⟨bp,3,none⟩) (.slice (some ⟨o4,0,none⟩) 19 19) (by show o4≠bp; omega))
  have hob:o4≠bp:=by omega
  clear hof hu4 ho4 hO4 hU11 hb11 HOF HB HU HR HBq
  go_wp2_with (first
   | (refine zr rfl 177 _ rfl bp rfl 177 _ hB12 _ Tryz.underlying177 rfl (by rw [Ya]; rfl) ?_)
   | (refine zs rfl 177 _ _ rfl bp rfl _ rfl 177 _ hB12 (by rw [Ya]; rfl) rfl (by simp [Value.oneCell']) ?_; intro w14 hB14 hU14))
  refine bodyPost_ret (results_cell_row rfl _ _ _ _ _ _ _ rfl hB14 Tryz.underlying177 rfl (by rw [Ya]; rfl)) rfl ?_
  have hUf:Upd [bp] W w14:=HU12.out.then hU14
  refine ⟨g1,c1,g2,c2,o4,.slice va6 steps.length vc6,lits,backs,_,steps,by rw [HL1.out,HL2.out],HMF.out,?_,?_,?_,HO12.out.upd hU14 (by simpa using hob),HUW.out.trans hUf (fun k hk => .inr (by have:=HBQ.out; simp at hk; omega))⟩
  · rw [HL1.out]; exact HLR1.out.upd hUf (by simp [Value.ownBlock]; omega)
  · rw [HL2.out]; exact HLR2.out.upd hUf (by simp [Value.ownBlock]; omega)
  · exact HR12.out.upd hU14 (fun k e hk=>HO7.out k e (by simpa using hk))
end Go.Proofs.YtfkcdnaghndgfaaGreatDoor
namespace Go.Proofs.YtfkcdnaghndgfaaGreatDoor
open Go.RowKit
@[local go_sem high] theorem zfK {P:Program} (w:World) (ts:Array TypeId) (t:TypeId) (k k' k'':IntKind) (x y z:Int) :
 (Builtin.min_ ts t #[.int k x,.int k' y,.int k'' z]).run P w = .ok (.int k (min (min x y) z)) w:=by
 have e:(if z<(if y<x then y else x) then z else (if y<x then y else x))=min (min x y) z:=by
  split<;>split<;>omega
 have h:(Builtin.min_ ts t #[.int k x,.int k' y,.int k'' z]).run P w = .ok (.int k (if z<(if y<x then y else x) then z else (if y<x then y else x))) w:=by
  simp [Builtin.min_,Builtin.min2]
 rw [h,e]
def jp (x:Int):Int:=max 0 (min x 1099511627776)
theorem zde (x:Int):0≤jp x∧jp x≤1099511627776:=by unfold jp; omega
theorem zdG (x:Int) (w:World):Calls Tryz.prog 198 #[.int .i64 x] w fun e w'=>e = .returned (.int .i64 (jp x))∧w=w':=by
 go_enter Tryz.func198,Tryz.ntmps198
 go_wp2
 go_returns
 exact ⟨rfl,rfl⟩
def zW (l u:List Int):Nat→Int
 | 0=>0
 | i+1=>zW l u i+max 0 (min (l.getD i 0) 15)*jp (u.getD i 0)
theorem QC (l u:List Int) (i:Nat):0≤zW l u i∧zW l u i≤i*16492674416640:=by
 induction i with
 | zero=>simp [zW]
 | succ i ih =>
   simp only [zW]
   have h:=zde (u.getD i 0)
   have h1:0≤max 0 (min (l.getD i 0) 15)∧max 0 (min (l.getD i 0) 15)≤15:=by omega
   generalize max 0 (min (l.getD i 0) 15)=a at *
   generalize jp (u.getD i 0)=b at *
   have h2:0≤a*b:=Int.mul_nonneg h1.1 h.1
   have h3:a*b≤15*1099511627776:=Int.le_trans (Int.mul_le_mul_of_nonneg_right h1.2 h.1) (Int.mul_le_mul_of_nonneg_left h.2 (by decide))
   omega
set_option maxRecDepth 100000 in
set_option maxHeartbeats 3200000 in
theorem VG (x y:Option Addr) (cx cy:Nat) (l u:List Int) (w:World) (hI:IntsIn w x l.length l) (hM:IntsIn w y u.length u) (hl:l.length≤9223372036854775807) (hu:u.length≤9223372036854775807) :
 Calls Tryz.prog 164 #[.slice x l.length cx,.slice y u.length cy] w fun e w'=>e = .returned (.int .i64 (zW l u (min (min l.length u.length) 300))) ∧ ∃ n,w'=w.drewN n:=by
 have hN:Hid (min (min l.length u.length) 300≤300):=Lib.hid (by omega)
 have hNl:Hid (min (min l.length u.length) 300≤l.length):=Lib.hid (by omega)
 have hNu:Hid (min (min l.length u.length) 300≤u.length):=Lib.hid (by omega)
 have hNe:Hid (((min (min l.length u.length) 300:Nat):Int)=min (min (l.length:Int) (u.length:Int)) 300):=Lib.hid (by omega)
 generalize min (min l.length u.length) 300=N at *
 have HI:=Lib.hid hI
 have HM:=Lib.hid hM
 clear hI hM
 go_enter Tryz.func164,Tryz.ntmps164
 have hN':=hN.out
 have HM3:=Lib.hid (@zfK Tryz.prog)
 go_wp2
 rw [show min (l.length:Int) (min (u.length:Int) 300)=(N:Int) by have:=hNe.out; omega]
 go_loopg [4,11] N (fun g s4 s11 wr => ∃ i n,i≤N∧g=N-i∧s11 = .int .i64 (i:Nat)∧s4 = .int .i64 (zW l u i)∧w.drewN n=wr)
 case atStart=>exact ⟨0,0,by omega,rfl,rfl,rfl,rfl⟩
 case round =>
  obtain ⟨i,n,hin,rfl,rfl,rfl,rfl⟩:=hrel
  have hcb:=QC l u i
  have hi300:(i:Int)*16492674416640≤300*16492674416640:=by omega
  by_cases hc:i<N
  · have hcz:(i:Int)<(N:Int):=by omega
    have hil:i<l.length:=by have:=hNl.out; omega
    have hiu:i<u.length:=by have:=hNu.out; omega
    obtain ⟨b1,o1,rfl,c1,r1,r2⟩:=HI.out.cell i hil
    obtain ⟨b2,o2,rfl,c2,r3,r4⟩:=HM.out.cell i hiu
    have hst:=Lib.hid (show zW l u (i+1)=zW l u i+max 0 (min (l[i]) 15)*jp (u[i]) by
     simp only [zW,List.getD,List.getElem?_eq_getElem hil,List.getElem?_eq_getElem hiu,Option.getD])
    have hz:decide ((l.length:Int)≤(i:Int))=false:=by simp; omega
    have hz2:decide ((u.length:Int)≤(i:Int))=false:=by simp; omega
    have hnb:=zde u[i]
    generalize u[i]=y at *
    generalize l[i]=x at *
    have hab:0≤max 0 (min x 15)∧max 0 (min x 15)≤15:=by omega
    have h2:0≤max 0 (min x 15)*jp y:=Int.mul_nonneg hab.1 hnb.1
    have h3:max 0 (min x 15)*jp y≤16492674416640:=Int.le_trans (Int.mul_le_mul_of_nonneg_right hab.2 hnb.1) (Int.mul_le_mul_of_nonneg_left hnb.2 (by decide))
    generalize zW l u i=c at *
    have d1:(w.drewN n).cell? ⟨b1,o1+i,none⟩=some (.int .i64 x):=c1
    have d2:(w.drewN n).cell? ⟨b2,o2+i,none⟩=some (.int .i64 y):=c2
    clear c1 c2
    generalize hw1:w.drewN n=w1 at *
    have HW:=Lib.hid hw1
    clear hw1
    have HN:=Lib.hid (fun w'=>zdG y w')
    generalize jp y=ny at *
    clear hN'
    go_wp2
    go_quiet ((go_at_call 198; exact Calls.quiet_of_same ((HN.out _).mono fun e w' ⟨he,hw⟩=>⟨he,hw.symm⟩)))
    go_wp2
    go_roundg (N-(i+1))
    case measure=>omega
    case rel=>exact ⟨i+1,n+nq,by omega,rfl,by go_num,by rw [hst.out],by rw [← HW.out]; simp⟩
  · have hcz : ¬ (i:Int)<(N:Int):=by omega
    have hi:i=N:=by omega
    rw [hi]
    clear hi hc
    generalize hcc:zW l u N=c at *
    have HCC:=Lib.hid hcc
    clear hcc
    go_wp2
    go_returns
    exact ⟨by rw [HCC.out]; rfl,n,rfl⟩
end Go.Proofs.YtfkcdnaghndgfaaGreatDoor
