/- Package block: Sizes: its walk. -/
import Derived.Test.YtfkcdnaghndgfaaGreatDoorQBP
import Derived.Test.YtfkcdnaghndgfaaGreatDoorQAR
import Derived.Test.YtfkcdnaghndgfaaGreatDoorQBQ
import Derived.Test.YtfkcdnaghndgfaaGreatDoorQAC
import Derived.Test.YtfkcdnaghndgfaaGreatDoorQBM
import Derived.Test.YtfkcdnaghndgfaaGreatDoorQBO
import Derived.Test.YtfkcdnaghndgfaaGreatDoorQBH
set_option linter.unusedVariables false
set_option linter.unusedSimpArgs false
set_option linter.unusedSectionVars false
namespace Go.Proofs.YtfkcdnaghndgfaaGreatDoor
open Go.RowKit
attribute [local go_sem] Oper.semAt_some
def xJ (t:Tok):Nat:=if t.long≤1 then 1 else t.long.toNat
def zx (l:List Tok):Nat:=(l.map xJ).sum
theorem Zb (l:List Tok) (t:Tok):zx (l++[t])=zx l+xJ t:=by unfold zx; simp
theorem QI {t:Tok} (h:zH t):xJ t≤258:=by unfold xJ; unfold zH at h; split<;>omega
theorem QW : ∀ (l:List Tok),(∀ t∈l,zH t)→zx l≤258*l.length
 | [],_=>by simp [zx]
 | t::l,h=>by
   have ih:=QW l (fun x hx=>h x (List.mem_cons_of_mem _ hx))
   have h1:=QI (h t List.mem_cons_self)
   unfold zx at *
   rw [List.map_cons,List.sum_cons,List.length_cons]
   omega
theorem zeR (r:List Int) (a:Int) (h : ∀ x∈r,0≤x∧x≤15):(yg r a).1.sym<19∧(yg r a).1.bits≤7:=by
 unfold yg
 split
 · exact ⟨show 18<19 by omega,show vy 18≤7 by decide⟩
 · split
   · exact ⟨show 17<19 by omega,show vy 17≤7 by decide⟩
   · split
     · exact ⟨show 16<19 by omega,show vy 16≤7 by decide⟩
     · cases r with
       | nil=>exact ⟨by decide,by decide⟩
       | cons x r=>have:=h x List.mem_cons_self; exact ⟨by show x.toNat<19; omega,Nat.zero_le _⟩
theorem zdg : ∀ (f:Nat) (r:List Int) (a:Int),(∀ x∈r,0≤x∧x≤15) → ∀ s∈ofS f r a,s.sym<19∧s.bits≤7
 | 0,_,_,_,s,hs=>by cases hs
 | f+1,r,a,h,s,hs=>by
   rw [jP] at hs
   split at hs
   · cases hs
   · rcases List.mem_cons.1 hs with rfl | hs
     · exact zeR r a h
     · exact zdg f _ _ (fun x hx=>h x (List.mem_of_mem_drop hx)) s hs
theorem JT {l:List Nat} {m b:Nat} (h : ∀ x∈l,x≤b) : ∀ x∈l.take m,x≤b:=fun x hx=>h x (List.mem_of_mem_take hx)
theorem MadeO.bd {l:List Tok} {lits backs lens:List Nat} {steps:List StpD} (h:MadeO l lits backs steps lens) (hl:(zo l).1.length=286∧(zo l).2.length=30) :
 257≤lits.length∧lits.length≤286∧1≤backs.length∧backs.length≤30∧(∀ x∈lits,x≤15)∧(∀ x∈backs,x≤15)∧(∀ s∈steps,s.sym<19∧s.bits≤7)∧(∀ x∈lens,x≤7)∧lens.length=19∧steps.length≤316:=by
 obtain ⟨u1,m1,hu1,ht1,e1⟩:=h.a
 obtain ⟨u2,m2,hu2,ht2,e2⟩:=h.b
 obtain ⟨u3,hu3,e3⟩:=h.c
 have i1:(ints (zo l).1).length=286:=by simp [ints,hl.1]
 have i2:(ints (zo l).2).length=30:=by simp [ints,hl.2]
 have b1:=JH i1 hu1 (L:=15) (by omega) (by omega) (by have:=hu1.le; omega)
 have b2:=JH i2 hu2 (L:=15) (by omega) (by omega) (by have:=hu2.le; omega)
 have l1:lits.length=m1:=by rw [e1,List.length_take,qT]; exact Nat.min_eq_left ht1.le
 have l2:backs.length=m2:=by rw [e2,List.length_take,qT]; exact Nat.min_eq_left ht2.le
 have x1 : ∀ x∈lits,x≤15:=by rw [e1]; exact JT b1
 have x2 : ∀ x∈backs,x≤15:=by rw [e2]; exact JT b2
 have hs19:(zB steps).length=19:=by have:=(qP steps steps.length (Nat.le_refl _)).1; rwa [List.take_length] at this
 have hf1:=ht1.few
 have hf2:=ht2.few
 have hle1:=ht1.le
 have hle2:=ht2.le
 have hsl:steps.length≤lits.length+backs.length:=by rw [h.s]; exact zb0 _ _ _
 refine ⟨by omega,by omega,by omega,by omega,x1,x2,?_,?_,?_,by omega⟩
 · rw [h.s]
   refine zdg _ _ _ (fun x hx=>?_)
   obtain ⟨y,hy,rfl⟩:=List.mem_map.1 hx
   rcases List.mem_append.1 hy with hy | hy
   · have:=x1 y hy; omega
   · have:=x2 y hy; omega
 · rw [e3]
   exact JH (by simp [ints,XA,hs19]) hu3 (by omega) (by omega) (by have:=hu3.le; omega)
 · rw [e3,qT]
theorem StpIn.updF {w w':World} {a:Option Addr} {len:Nat} {l:List StpD} {fp:List Nat} (h:StpIn w a len l) (hU:Upd fp w w') (hf : ∀ b off,a=some ⟨b,off,none⟩→b∉fp):StpIn w' a len l :=
 ⟨h.len,fun i hi=>by
  obtain ⟨b,off,e,c1,c2,c3⟩:=h.cell i hi
  have hb:b<w.heap.size:=World.block_lt_of_cell? w _ c1
  have hn:=hf b off e
  exact ⟨b,off,e,(hU.at hb hn _).trans c1,(hU.at hb hn _).trans c2,(hU.at hb hn _).trans c3⟩⟩
theorem JA {w:World} {e t:TypeId} {size n b:Nat} {v:Value} {xs cs:List Value} (h:Row w e size v n xs) (hB:Blk w b cs t) (ht:t≠e):v.ownBlock≠some b:=by
 rcases h.2 with ⟨rfl,rfl⟩ | ⟨g',cap,cur,rfl,hb,hh,_⟩
 · simp [Value.ownBlock]
 · intro e2
   simp [Value.ownBlock] at e2
   subst e2
   unfold Blk at hB
   rw [hB] at hh
   simp at hh
   exact ht hh.2
theorem zgq:(Tryz.prog.info? 132).map (·.size)=some 3:=by kernel_rfl
def ziL (l:List Tok) (w:World) (e:Ending) (w':World):Prop := ∃ (lits backs lens:List Nat) (steps:List StpD) (t:Nat),MadeO l lits backs steps lens∧ToldO lens t ∧
 e = .returned (.agg #[.int .i64 ((35+8*zx l:Nat):Int),.int .i64 (3+ql (ints (xG 4)) (ints (List.replicate 32 5)) (zo l)),.int .i64 (((3+(14+3*t+szT lens steps):Nat):Int)+ql (ints lits) (ints backs) (zo l))])∧Upd [] w w'
theorem qj {l:List Nat} (h : ∀ x∈l,x≤15) : ∀ v∈ints l,0≤v∧v≤15:=fun v hv=>by
 obtain ⟨y,hy,rfl⟩:=List.mem_map.1 hv
 have:=h y hy
 omega
theorem Xt (x y:List Nat) (hx : ∀ v∈x,v≤15) (hy : ∀ v∈y,v≤15) (l:List Tok) (hn:l.length≤100000) (hok : ∀ t∈l,zH t):0≤ql (ints x) (ints y) (zo l)∧ql (ints x) (ints y) (zo l)≤6000015:=by
 rw [JG _ _ (qj hx) (qj hy) l hn hok]
 have:=VR _ _ (qj hx) (qj hy) l hok l.length (Nat.le_refl _)
 rw [List.take_length] at this
 omega
theorem Jk:(∀ x∈xG 4,x≤15)∧(∀ x∈List.replicate 32 5,x≤15)∧(xG 4).length=288:=by decide +kernel
set_option maxRecDepth 100000 in
set_option maxHeartbeats 12800000 in
theorem zeM (l:List Tok) (a:Option Addr) (n cap:Nat) (w:World) (hI:TokIn w a n l) (hn:n≤100000) (hok : ∀ t∈l,zH t) :
 Calls Tryz.prog 82 #[.slice a n cap] w fun e w'=>ziL l w e w':=by
 have hln:=hI.len
 have HUo:=Lib.hid ((Upd.refl [] w).alloc (.cells #[.int .i64 0,.int .i64 0,.int .i64 0] 132))
 have HBo:=Lib.hid (Blk.new w [.int .i64 0,.int .i64 0,.int .i64 0] 132)
 have HMA:=Lib.hid (fun w1 (h:Upd [] w w1)=>Wh l a n cap w1 (hI.pure h) hn hok)
 have HBF:=Lib.hid (fun w1 (h:Upd [] w w1) (x y:List Int) ax ay nx cx ny cy hX hY h1 h2=>zgX l x y a ax ay n cap nx cx ny cy w1 (hI.pure h) hn hok hX hY h1 h2)
 have HML:=Lib.hid (by have:=qt l l.length (Nat.le_refl _); rw [List.take_length] at this; exact And.intro this.la this.lb)
 have HEL:=Lib.hid (fun i=>QW (l.take i) (fun t h=>hok t (List.mem_of_mem_take h)))
 have HOK:=Lib.hid hok
 have HBB:=Lib.hid (fun x y hx hy=>Xt x y hx hy l (by omega) hok)
 have HI:=Lib.hid hI
 have HLN:=Lib.hid hln
 clear hI hok hln
 go_enter Tryz.func82,Tryz.ntmps82
 go_upto_region 1 with fail
 change Code.wp _ _ _ _ (w.alloc (.cells #[.int .i64 0,.int .i64 0,.int .i64 0] 132))
 generalize w.alloc (.cells #[.int .i64 0,.int .i64 0,.int .i64 0] 132)=w1 at *
 obtain ⟨ob,hob⟩ : ∃ ob,w.heap.size=ob:=⟨_,rfl⟩
 rw [hob] at HBo ⊢
 have HOB:=Lib.hid hob
 clear hob
 go_wp2
 go_loopg [3,11] 200000 (fun gg s3 s11 wr => ∃ i:Nat,i≤n∧gg=200000-i∧s11 = .int .i64 (i:Nat)∧s3 = .int .i64 (zx (l.take i):Nat)∧Hid (Upd [] w1 wr))
 case atStart=>exact ⟨0,by omega,by omega,rfl,rfl,Lib.hid (Upd.refl _ _)⟩
 case round =>
  obtain ⟨i,hin,rfl,rfl,rfl,HU⟩:=hrel
  have hms:zx (l.take i)≤258*i:=Nat.le_trans (HEL.out i) (Nat.mul_le_mul_left _ (List.length_take_le _ _))
  by_cases hc:i<n
  · have hcz:(i:Int)<(n:Int):=by omega
    have hil:i<l.length:=by rw [HLN.out]; exact hc
    have hw1:IntKind.i64.wrap ((i:Int)+1)=((i+1:Nat):Int):=by rw [IntWalk.i64_in _ (by omega)]; rfl
    obtain ⟨b,off,rfl,⟨hc1,hc2,hc3⟩,r1,r2,r3⟩:=(HI.out.pure (HUo.out.then HU.out)).cell i hil
    have HSM:Hid (zx (l.take (i+1))=zx (l.take i)+xJ l[i]):=Lib.hid (by rw [List.take_succ_eq_append_getElem hil,Zb])
    have htl:=QI (HOK.out _ (List.getElem_mem hil))
    have hmx:max 1 l[i].long=(xJ l[i]:Int):=by unfold xJ; split<;>omega
    generalize l[i]=t at *
    generalize xJ t=mt at *
    obtain ⟨tb,tl,tk⟩:=t
    dsimp only at hc1 hc2 hc3 r1 r2 r3 hmx
    have HU4:=Lib.hid (HU.out.alloc (.cells #[.int .u8 (tb:Nat),.int .i64 tl,.int .i64 tk] 130))
    generalize zx (l.take i)=ms at *
    have hws:IntKind.i64.wrap ((ms:Int)+(mt:Int))=((ms+mt:Nat):Int):=by rw [IntWalk.i64_in _ (by omega)]; rfl
    clear hil
    go_wp2
    go_roundg (200000-(i+1))
    · exact ⟨i+1,by omega,by first | rfl | omega,by first | rfl | go_num,by rw [HSM.out]; first | rfl | go_num,HU4⟩
    · omega
  · have hcz : ¬ (i:Int)<(n:Int):=by omega
    obtain rfl:i=n:=by omega
    have htk:l.take i=l:=List.take_of_length_le (by rw [HLN.out]; exact Nat.le_refl _)
    rw [htk] at hms ⊢
    clear htk
    have HU1:=Lib.hid (HUo.out.then HU.out)
    have HMM:=Lib.hid (HMA.out wr HU1.out)
    clear HMA
    go_wp2_with fail
    refine HMM.out.mono ?_
    rintro e w3 ⟨g1,c1,g2,c2,g4,v3,lits,backs,lens,steps,rfl,hM,hR1,hR2,hR3,hB4,hU3⟩
    obtain ⟨va,vc,rfl⟩:=hR3.form
    obtain ⟨m1,m1',m2,m2',x15,y15,hsy,hl7,hl19,hsl⟩:=hM.bd HML.out
    have HMO:=Lib.hid hM
    have HX15:=Lib.hid x15
    have HY15:=Lib.hid y15
    have HU3:=Lib.hid (HU1.out.then hU3)
    have HBo3:=Lib.hid (HBo.out.upd (HU.out.then hU3) (by simp))
    have hIl:IntsIn w3 (some ⟨g1,0,none⟩) lits.length (ints lits):=IntsIn.row hR1 (fun x hx=>by have:=x15 x hx; omega)
    have hIb:IntsIn w3 (some ⟨g2,0,none⟩) backs.length (ints backs):=IntsIn.row hR2 (fun x hx=>by have:=y15 x hx; omega)
    have hIn:IntsIn w3 (some ⟨g4,0,none⟩) 19 (ints lens):=IntsIn.blk hB4 hl19 (fun x hx=>by have:=hl7 x hx; omega)
    have ng1:g1≠ob:=fun e=>JA hR1 HBo3.out (by decide) (by simp [Value.ownBlock,e])
    have ng2:g2≠ob:=fun e=>JA hR2 HBo3.out (by decide) (by simp [Value.ownBlock,e])
    have ng3:=JA hR3 HBo3.out (by decide)
    have ng4:g4≠ob:=fun e=>by
     subst e
     have h1:=hB4
     have h2:=HBo3.out
     unfold Blk at h1 h2
     rw [h1] at h2
     simp at h2
    have HSZ0:=Lib.hid (fun w9 (h:Upd [ob] w3 w9)=>zgW lens steps (some ⟨g1,0,none⟩) (some ⟨g2,0,none⟩) va (some ⟨g4,0,none⟩) lits.length backs.length steps.length c1 c2 vc 19 w9 (hIn.upd h (fun b off e=>by cases e; simpa using ng4)) ((StpIn.row hR3 rfl).updF h (fun b off e=>by subst e; simp [Value.ownBlock] at ng3; simpa using ng3)) (by omega) (fun j=>by have:=vg hl7 j; omega) hsy)
    have HZB:Hid (szT lens steps≤22*316):=Lib.hid (Nat.le_trans (zcu lens (fun j=>by have:=vg hl7 j; omega) steps (fun s hs=>(hsy s hs).2)) (Nat.mul_le_mul_left _ hsl))
    have HIL:=Lib.hid hIl
    have HIB:=Lib.hid hIb
    clear hM x15 y15 hIl hIb hIn hR1 hR2 hR3 hB4 hU3 hsy hl7 hl19 HMM
    have hP4:=Blk.new w3 [.slice (some ⟨g1,0,none⟩) lits.length c1,.slice (some ⟨g2,0,none⟩) backs.length c2,.slice va steps.length vc,.slice (some ⟨g4,0,none⟩) 19 19] 177
    have hUp:=(Upd.refl [] w3).alloc (.cells #[.slice (some ⟨g1,0,none⟩) lits.length c1,.slice (some ⟨g2,0,none⟩) backs.length c2,.slice va steps.length vc,.slice (some ⟨g4,0,none⟩) 19 19] 177)
    go_upto_region 8 with fail
    change Code.wp _ _ _ _ (w3.alloc (.cells #[.slice (some ⟨g1,0,none⟩) lits.length c1,.slice (some ⟨g2,0,none⟩) backs.length c2,.slice va steps.length vc,.slice (some ⟨g4,0,none⟩) 19 19] 177))
    generalize w3.alloc (.cells #[.slice (some ⟨g1,0,none⟩) lits.length c1,.slice (some ⟨g2,0,none⟩) backs.length c2,.slice va steps.length vc,.slice (some ⟨g4,0,none⟩) 19 19] 177)=w4 at *
    have hpo:ob<w3.heap.size:=HBo3.out.lt
    generalize w3.heap.size=pb at *
    have HP4:=Lib.hid hP4
    have HUp:=Lib.hid hUp
    clear hP4 hUp
    go_wp2_with fail
    refine (QB _).mono ?_
    rintro e w5 ⟨f1,d1,f2,rfl,hF1,hF2,hU5,hf1,hf2⟩
    have hIf1:IntsIn w5 (some ⟨f1,0,none⟩) 288 (ints (xG 4)):=IntsIn.row hF1 (fun x hx=>by have:=Jk.1 x hx; omega)
    have hIf2:IntsIn w5 (some ⟨f2,0,none⟩) 32 (ints (List.replicate 32 5)):=IntsIn.row hF2 (fun x hx=>by have:=Jk.2.1 x hx; omega)
    have HP5:=Lib.hid (HP4.out.upd hU5 (by simp))
    have hBo5:=HBo3.out.upd (HUp.out.then hU5) (by simp)
    have hfo:f1≠ob∧f2≠ob:=by have:=HP4.out.lt; constructor<;>omega
    have HU35:=Lib.hid (HUp.out.then hU5)
    clear hF1 hF2 hU5 hf1 hf2
    have hel:zx l≤25800000:=by omega
    obtain ⟨N,hN⟩ : ∃ N,zx l=N:=⟨_,rfl⟩
    rw [hN] at hel ⊢
    have HNE:=Lib.hid hN
    have hBF:=HBB.out (xG 4) (List.replicate 32 5) Jk.1 Jk.2.1
    obtain ⟨BF,hBFe⟩ : ∃ B,ql (ints (xG 4)) (ints (List.replicate 32 5)) (zo l)=B:=⟨_,rfl⟩
    rw [hBFe] at hBF
    have HBFE:=Lib.hid hBFe
    have hBV:=HBB.out lits backs HX15.out HY15.out
    obtain ⟨BV,hBVe⟩ : ∃ B,ql (ints lits) (ints backs) (zo l)=B:=⟨_,rfl⟩
    rw [hBVe] at hBV
    have HBVE:=Lib.hid hBVe
    have o0:=hBo5.cell 0 rfl
    have of0:=hBo5.frz 0
    have hUS5:Upd [ob] w5 (w5.setCell ⟨ob,0,none⟩ (.int .i64 (35+8*(N:Int)))):=(Upd.refl [ob] w5).setCell (.inl (by simp)) _
    have hBs5:=hBo5.set 0 (.int .i64 (35+8*(N:Int)))
    simp only [List.set_cons_zero,List.set_cons_succ] at hBs5
    have hU5a:Upd [] w (w5.setCell ⟨ob,0,none⟩ (.int .i64 (35+8*(N:Int)))):=((HU3.out.then HU35.out).trans hUS5 (fun k hk => .inr (by have:=HOB.out; simp at hk; omega)))
    have HBC:Hid (Calls Tryz.prog 129 #[.slice a i cap,.slice (some ⟨f1,0,none⟩) 288 d1,.slice (some ⟨f2,0,none⟩) 32 32] (w5.setCell ⟨ob,0,none⟩ (.int .i64 (35+8*(N:Int)))) fun e w'=>e = .returned (.int .i64 BF)∧Upd [] (w5.setCell ⟨ob,0,none⟩ (.int .i64 (35+8*(N:Int)))) w') :=
     Lib.hid ((HBF.out _ hU5a (ints (xG 4)) (ints (List.replicate 32 5)) _ _ 288 d1 32 32 (hIf1.upd hUS5 (fun b off e=>by cases e; simpa using hfo.1)) (hIf2.upd hUS5 (fun b off e=>by cases e; simpa using hfo.2)) (by omega) (by omega)).mono (fun e w' ⟨h1,h2⟩=>⟨by rw [h1,hBFe],h2⟩))
    have HUW0:=Lib.hid (HU35.out.mono (fp':=[ob]) (by simp) |>.then hUS5)
    have HU5a:=Lib.hid hU5a
    have HBs5:=Lib.hid hBs5
    have HP5s:=Lib.hid (HP5.out.upd hUS5 (by have:=hfo; simp; omega))
    clear hIf1 hIf2 hBo5 hUS5 hBs5 hU5a hN hBFe hBVe HP4 HUp HP5 HBo3 HU3 hms
    go_wp2_with fail
    refine HBC.out.mono ?_
    rintro e w6 ⟨rfl,hU6⟩
    have hb6:=HBs5.out.upd hU6 (by simp)
    have o1:=hb6.cell 1 rfl
    have of1:=hb6.frz 1
    have hUS6:Upd [ob] w6 (w6.setCell ⟨ob,1,none⟩ (.int .i64 (3+BF))):=(Upd.refl [ob] w6).setCell (.inl (by simp)) _
    have hBs6:=hb6.set 1 (.int .i64 (3+BF))
    simp only [List.set_cons_zero,List.set_cons_succ] at hBs6
    have HBO1:=Lib.hid hBs6
    have HUW3:=Lib.hid ((HUW0.out.trans (fp':=[]) hU6 (by simp)).then hUS6)
    have HUWw:=Lib.hid ((HU5a.out.then hU6).trans hUS6 (fun k hk => .inr (by have:=HOB.out; simp at hk; omega)))
    have HPW:=Lib.hid ((HP5s.out.upd hU6 (by simp)).upd hUS6 (by simp; omega))
    clear hb6 hUS6 hBs6 hU6 HBC HUW0 HU5a HBs5 HP5s
    go_upto_region 11 with fail
    change Code.wp _ _ _ _ (w6.setCell ⟨ob,1,none⟩ (.int .i64 (3+BF)))
    generalize w6.setCell ⟨ob,1,none⟩ (.int .i64 (3+BF))=W at *
    clear o0 of0 o1 of1
    have HSZ:=Lib.hid (fun w9 (h:Upd [] W w9)=>HSZ0.out w9 (HUW3.out.trans h (by simp)))
    have HBO:Hid (∀ w9,Upd [] W w9→Calls Tryz.prog 129 #[.slice a i cap,.slice (some ⟨g1,0,none⟩) lits.length c1,.slice (some ⟨g2,0,none⟩) backs.length c2] w9 fun e w'=>e = .returned (.int .i64 BV)∧Upd [] w9 w') :=
     Lib.hid (fun w9 h=>(HBF.out _ (HUWw.out.then h) (ints lits) (ints backs) _ _ _ c1 _ c2 (HIL.out.upd (HUW3.out.trans (fp':=[]) h (by simp)) (fun b off e=>by cases e; simpa using ng1)) (HIB.out.upd (HUW3.out.trans (fp':=[]) h (by simp)) (fun b off e=>by cases e; simpa using ng2)) (by omega) (by omega)).mono (fun e w' ⟨h1,h2⟩=>⟨by rw [h1,HBVE.out],h2⟩))
    have k0:=HPW.out.cell 0 rfl
    have k1:=HPW.out.cell 1 rfl
    have k2:=HPW.out.cell 2 rfl
    have k3:=HPW.out.cell 3 rfl
    clear HSZ0 HBF
    refine wp_region_held_drew (S:=fun w'=>HC [ob] W [(⟨pb,0,none⟩,.slice (some ⟨g1,0,none⟩) lits.length c1),(⟨pb,1,none⟩,.slice (some ⟨g2,0,none⟩) backs.length c2),(⟨pb,2,none⟩,.slice va steps.length vc),(⟨pb,3,none⟩,.slice (some ⟨g4,0,none⟩) 19 19)] w') (by kernel_rfl) (HC.of (fp:=[ob]) (W:=W) (fs:=[(⟨pb,0,none⟩,.slice (some ⟨g1,0,none⟩) lits.length c1),(⟨pb,1,none⟩,.slice (some ⟨g2,0,none⟩) backs.length c2),(⟨pb,2,none⟩,.slice va steps.length vc),(⟨pb,3,none⟩,.slice (some ⟨g4,0,none⟩) 19 19)]) ⟨k0,k1,k2,k3,trivial⟩).drew (fun hHeld=>hdN ?_)
    refine hdT 0 (some 37) ?_ (hy:=by intro w hSw; have q0:=hSw.cells.1; have q1:=hSw.cells.2.1; have q2:=hSw.cells.2.2.1; have q3:=hSw.cells.2.2.2.1; dsimp only at q0 q1 q2 q3; clear hSw; go_simp; try with_reducible rfl)
    refine hdT 3 (some 40) ?_; refine hdT 4 (some 41) ?_
    refine hdT 5 (some 42) ?_ (hy:=by intro w hSw; have q0:=hSw.cells.1; dsimp only at q0; clear hSw; go_simp; try with_reducible rfl)
    refine hdT 6 (some 43) ?_
    refine hdT 7 (some 44) ?_ (hy:=by intro w hSw; have q0:=hSw.cells.2.1; dsimp only at q0; clear hSw; go_simp; try with_reducible rfl)
    refine hdO 1 (fun K hK=>?_)
    go_simp
    refine (HSZ.out _ (Upd.drew (Upd.refl [] W))).mono ?_
    rintro e z1 ⟨t,rfl,ht,hU⟩
    have HT:=Lib.hid ht
    have HUz1:=Lib.hid ((Upd.drew (Upd.refl [] W)).then hU)
    have hszb:14+3*t+szT lens steps≤100000:=by have:=ht.hi; have:=HZB.out; omega
    obtain ⟨SZ,hSZ⟩ : ∃ SZ,14+3*t+szT lens steps=SZ:=⟨_,rfl⟩
    rw [hSZ] at hszb ⊢
    have HSZE:=Lib.hid hSZ
    obtain ⟨S3,hS3⟩ : ∃ S3,3+SZ=S3:=⟨_,rfl⟩
    have hws:IntKind.i64.wrap (3+(SZ:Int))=(S3:Int):=by rw [IntWalk.i64_in _ (by omega)]; omega
    have hs3b:S3≤100003:=by omega
    have HS3:=Lib.hid hS3
    clear ht hSZ hS3
    go_wp2
    refine hK.out _ _ (hHeld.then hU) (fun hHeld=>hdN ?_)
    clear hK K
    clear hU
    refine hdT 2 (some 39) ?_ (hy:=by intro w hSw; clear hSw; go_simp; try with_reducible rfl) (v := .int .i64 (S3:Int))
    refine hdO 8 (fun K hK=>?_)
    go_simp
    refine (HBO.out _ HUz1.out).mono ?_
    rintro e z2 ⟨rfl,hU⟩
    have hUz2:=HUz1.out.then hU
    have hb2:=HBO1.out.upd hUz2 (by simp)
    have o2:=hb2.cell 2 rfl
    have f2:=hb2.frz 2
    have HB2:=Lib.hid hb2
    have HUz2:=Lib.hid hUz2
    have hwt:IntKind.i64.wrap ((S3:Int)+BV)=(S3:Int)+BV:=IntWalk.i64_in _ (by omega)
    clear hUz2 hb2
    go_wp2
    refine hK.out _ _ (hHeld.then hU) (fun hHeld=>hdN ?_)
    clear hK K
    clear hU
    refine hdT 9 (some 46) ?_ (hy:=by intro w hSw; clear hSw; go_simp; try with_reducible rfl) (v := .int .i64 ((S3:Int)+BV))
    refine hdT 10 (some 47) ?_
    refine hdO 11 (fun K hK=>?_)
    go_simp
    skip
    go_wp2
    refine hK.out _ _ (hHeld.set _ _ (.inl (by simp)) (by simp; omega)) (fun hHeld=>hdN ?_)
    clear hK K
    refine wpAnyH_done (by kernel_rfl) ?_ 0
    clear hHeld
    have hB9:=HB2.out.set 2 (.int .i64 ((S3:Int)+BV))
    simp only [List.set_cons_zero,List.set_cons_succ] at hB9
    have HU9:=Lib.hid ((HUWw.out.then HUz2.out).setCell (p:=⟨ob,2,none⟩) (.inr (by have:=HOB.out; show w.heap.size≤ob; omega)) (.int .i64 ((S3:Int)+BV)))
    clear o2 f2 k0 k1 k2 k3 hws hwt
    go_wp2_with (first
     | (refine zr rfl 132 _ rfl ob rfl 132 _ hB9 _ Tryz.underlying132 rfl (by rw [zgq]; rfl) ?_)
     | (refine zs rfl 132 _ _ rfl ob rfl _ rfl 132 _ hB9 (by rw [zgq]; rfl) rfl (by simp [Value.oneCell']) ?_; intro w14 hB14 hU14))
    refine bodyPost_ret (results_cell_row rfl _ _ _ _ _ _ _ rfl hB14 Tryz.underlying132 rfl (by rw [zgq]; rfl)) rfl ?_
    refine ⟨lits,backs,lens,steps,t,HMO.out,HT.out,?_,HU9.out.trans hU14 (fun k hk => .inr (by have:=HOB.out; simp at hk; omega))⟩
    rw [HBFE.out,HBVE.out,HSZE.out,HNE.out,HS3.out,show ((35+8*N:Nat):Int)=35+8*(N:Int) by omega]
end Go.Proofs.YtfkcdnaghndgfaaGreatDoor
namespace Go.Proofs.YtfkcdnaghndgfaaGreatDoor
def Zj (s:Nat):Nat:=if s≤15 then 0 else if s=16 then 2 else if s=17 then 3 else 7
def Yl (s:StpD):Nat:=if s.sym=16 then 3+s.more else if s.sym=17 then 3+s.more else if s.sym=18 then 11+s.more else 1
def ziY (out:List Nat) (s:StpD):Nat:=if s.sym=16 then out.getD (out.length-1) 0 else if s.sym=17 then 0 else if s.sym=18 then 0 else s.sym
def Xz (out:List Nat) (s:StpD):List Nat:=out++List.replicate (Yl s) (ziY out s)
def ziO (l:List StpD):List Nat:=l.foldl Xz []
structure OkS (out:List Nat) (s:StpD):Prop where
 sym:s.sym≤18
 bits:s.bits=Zj s.sym
 more:s.more<2^Zj s.sym
 some:s.sym=16→out≠[]
 room:out.length+Yl s≤400
def zc0:List Nat→List StpD→Prop
 | _,[]=>True
 | out,s::r=>OkS out s∧zc0 (Xz out s) r
theorem Wi : ∀ (l:List StpD) (out:List Nat),zc0 out l → ∀ i (h:i<l.length),OkS ((l.take i).foldl Xz out) l[i]
 | [],_,_,i,h=>absurd h (by simp)
 | s::l,out,hk,0,_=>hk.1
 | s::l,out,hk,i+1,h=>Wi l (Xz out s) hk.2 i (by simpa using h)
theorem Ji (k:Int) : ∀ (r:List Int) (j:Nat),j≤yu k r→r.take j=List.replicate j k
 | _,0,_=>by simp
 | [],j+1,h=>by simp [yu] at h
 | x::r,j+1,h=>by
   rw [yu] at h
   split at h
   · rename_i hx
     rw [List.take_succ_cons,List.replicate_succ,Ji k r j (by omega),hx]
   · omega
theorem zgQ : ∀ (r:List Int),(∀ x∈r,0≤x∧x≤15)→yu (-1) r=0
 | [],_=>rfl
 | x::r,h=>by
   have:=h x List.mem_cons_self
   rw [yu,if_neg (by omega)]
def zi4 (out:List Nat) (ah:Int):Prop:=(out=[]∧ah = -1)∨(out≠[]∧ah=((out.getD (out.length-1) 0:Nat):Int))
theorem Kb (j:Nat) (k:Int):(List.replicate j k).map Int.toNat=List.replicate j k.toNat:=by simp
theorem zgF (r:List Int) (ah:Int) (out:List Nat) (hr:r≠[]) (hb : ∀ x∈r,0≤x∧x≤15) (hl:out.length+r.length≤400) (ha:zi4 out ah) :
 OkS out (yg r ah).1∧Xz out (yg r ah).1=out++(r.take (yg r ah).2).map Int.toNat:=by
 have hz:=kO 0 r
 have hg:=kO ah r
 unfold yg
 split
 · rename_i h
   have e:min (yu 0 r) 138=(xQ 18 (yu 0 r)).2:=rfl
   refine ⟨⟨by show 18≤18; omega,rfl,?_,fun h=>absurd (show (18:Nat)=16 from h) (by decide),?_⟩,?_⟩
   · show min (yu 0 r) 138-11<128; omega
   · show out.length+(11+(min (yu 0 r) 138-11))≤400; omega
   · show out++List.replicate (11+(min (yu 0 r) 138-11)) 0=out++(r.take (min (yu 0 r) 138)).map Int.toNat
     rw [Ji 0 r _ (by omega),Kb,show 11+(min (yu 0 r) 138-11)=min (yu 0 r) 138 by omega]
     rfl
 · split
   · rename_i h1 h2
     refine ⟨⟨by show 17≤18; omega,rfl,?_,fun h=>absurd (show (17:Nat)=16 from h) (by decide),?_⟩,?_⟩
     · show min (yu 0 r) 10-3<8; omega
     · show out.length+(3+(min (yu 0 r) 10-3))≤400; omega
     · show out++List.replicate (3+(min (yu 0 r) 10-3)) 0=out++(r.take (min (yu 0 r) 10)).map Int.toNat
       rw [Ji 0 r _ (by omega),Kb,show 3+(min (yu 0 r) 10-3)=min (yu 0 r) 10 by omega]
       rfl
   · split
     · rename_i h1 h2 h3
       have hne:out≠[]∧ah=((out.getD (out.length-1) 0:Nat):Int):=by
        rcases ha with ⟨_,h⟩ | h
        · rw [h,zgQ r hb] at h3; omega
        · exact h
       refine ⟨⟨by show 16≤18; omega,rfl,?_,fun _=>hne.1,?_⟩,?_⟩
       · show min (yu ah r) 6-3<4; omega
       · show out.length+(3+(min (yu ah r) 6-3))≤400; omega
       · show out++List.replicate (3+(min (yu ah r) 6-3)) (out.getD (out.length-1) 0)=out++(r.take (min (yu ah r) 6)).map Int.toNat
         rw [Ji ah r _ (by omega),Kb,show 3+(min (yu ah r) 6-3)=min (yu ah r) 6 by omega,hne.2]
         simp
     · cases r with
       | nil=>exact absurd rfl hr
       | cons x r =>
         have hx:=hb x List.mem_cons_self
         have hx15:x.toNat≤15:=by omega
         simp only [List.length_cons] at hl
         refine ⟨⟨?_,?_,?_,fun h=>?_,?_⟩,?_⟩
         · show x.toNat≤18; omega
         · show 0=Zj x.toNat; unfold Zj; rw [if_pos hx15]
         · show 0<2^Zj x.toNat; exact Nat.two_pow_pos _
         · have:x.toNat=16:=h
           omega
         · show out.length+Yl ⟨x.toNat,0,0⟩≤400
           unfold Yl
           dsimp only
           rw [if_neg (by omega),if_neg (by omega),if_neg (by omega)]
           omega
         · show Xz out ⟨x.toNat,0,0⟩=out++((x::r).take 1).map Int.toNat
           unfold Xz Yl ziY
           dsimp only
           rw [if_neg (by omega),if_neg (by omega),if_neg (by omega),if_neg (by omega),if_neg (by omega),if_neg (by omega)]
           rfl
theorem zcH (out:List Nat) (r:List Int) (k:Nat) (h1:1≤k) (h2:k≤r.length) (hb : ∀ x∈r,0≤x∧x≤15) :
 r.getD (k-1) 0=(((out++(r.take k).map Int.toNat).getD ((out++(r.take k).map Int.toNat).length-1) 0:Nat):Int):=by
 have hl:(out++(r.take k).map Int.toNat).length=out.length+k:=by simp; omega
 have hk:k-1<r.length:=by omega
 rw [hl,List.getD_eq_getElem?_getD,List.getD_eq_getElem?_getD,List.getElem?_append_right (by omega),show out.length+k-1-out.length=k-1 by omega,List.getElem?_map,List.getElem?_take,if_pos (by omega),List.getElem?_eq_getElem hk]
 have:=hb _ (List.getElem_mem hk)
 simp
 omega
theorem zda : ∀ (f:Nat) (r:List Int) (ah:Int) (out:List Nat),r.length≤f→(∀ x∈r,0≤x∧x≤15)→out.length+r.length≤400→zi4 out ah →
 zc0 out (ofS f r ah)∧(ofS f r ah).foldl Xz out=out++r.map Int.toNat
 | 0,r,ah,out,h,_,_,_=>by
   have:r=[]:=List.eq_nil_of_length_eq_zero (by omega)
   subst this
   exact ⟨trivial,by simp [ofS]⟩
 | f+1,r,ah,out,h,hb,hl,ha=>by
   rw [jP]
   by_cases hr:r=[]
   · rw [if_pos hr,hr]
     exact ⟨trivial,by simp⟩
   · rw [if_neg hr]
     obtain ⟨k1,k2⟩:=QR r ah hr
     obtain ⟨o1,o2⟩:=zgF r ah out hr hb hl ha
     have hd:(r.drop (yg r ah).2).length=r.length-(yg r ah).2:=List.length_drop
     have hdl:(Xz out (yg r ah).1).length=out.length+(yg r ah).2:=by rw [o2]; simp; omega
     obtain ⟨i1,i2⟩:=zda f (r.drop (yg r ah).2) (r.getD ((yg r ah).2-1) 0) (Xz out (yg r ah).1) (by omega) (fun x hx=>hb x (List.mem_of_mem_drop hx)) (by omega)
      (.inr ⟨fun e=>by rw [e] at hdl; simp at hdl; omega,by rw [o2]; exact zcH out r _ k1 k2 hb⟩)
     refine ⟨⟨o1,i1⟩,?_⟩
     rw [List.foldl_cons,i2,o2,List.append_assoc,← List.map_append,List.take_append_drop]
end Go.Proofs.YtfkcdnaghndgfaaGreatDoor
namespace Go.Proofs.YtfkcdnaghndgfaaGreatDoor
theorem zdW (L:Nat) (ks:List Nat):Jq L ks=yt ks.length (fun i=>2^(L-ks.getD i 0)):=by
 unfold Jq yt
 congr 1
 apply List.ext_getElem
 · simp
 · intro i h1 h2
   have hi:i<ks.length:=by simpa using h2
   simp [List.getD_eq_getElem?_getD,hi]
end Go.Proofs.YtfkcdnaghndgfaaGreatDoor
namespace Go.Proofs.YtfkcdnaghndgfaaGreatDoor
def qH (many:List Int) (l:List Nat) (n:Nat):Nat:=yt n (fun i=>l.getD i 0*yr (many.getD i 0))
def zie (many:List Int) (u ks:List Nat):Nat:=yt u.length (fun i=>yr (many.getD (u.getD i 0) 0)*ks.getD i 0)
theorem zav {many:List Int} {n:Nat} {u:List Nat} (hu:IsUsed many n u) (L:Nat) (h2:2≤u.length) (hk:u.length≤2^L) :
 (∃ ks:List Nat,ks.length=u.length∧(∀ k∈ks,k≤L)∧Jq L ks=2^L∧qH many (ofL many u L n) n=zie many u ks) ∧
 ∀ ks:List Nat,ks.length=u.length→(∀ k∈ks,k≤L)→Jq L ks≤2^L→qH many (ofL many u L n) n≤zie many u ks:=by
 obtain ⟨_,c,c1,c2,c3,c4,c5,c6⟩:=Ki many u L hu.srt h2 hk
 have hlt : ∀ s∈u,s<n:=fun s hs=>((hu.mem s).1 hs).1
 have hc : ∀ i,i<u.length→qF many u L (u.getD i 0)=c i:=fun i hi=>by
  rw [List.getD_eq_getElem?_getD,List.getElem?_eq_getElem hi]
  exact c4 i hi
 have hC:qH many (ofL many u L n) n=yt u.length (fun i=>yr (many.getD (u.getD i 0) 0)*c i):=by
  unfold qH
  rw [Kz (by omega)]
  rw [zc3 n _ u hu.nodup hlt (fun s hs hsu=>by rw [xj n _ s hs,c5 s hsu,Nat.zero_mul]),zfX]
  exact qg fun i hi=>by rw [xj n _ _ (hlt _ (Xi hi)),hc i hi,Nat.mul_comm]
 have hkg : ∀ i,i<u.length→((List.range u.length).map c).getD i 0=c i:=fun i hi=>xj _ _ i hi
 refine ⟨⟨(List.range u.length).map c,by simp,fun k hk=>?_,?_,?_⟩,fun ks h1 h2 h3=>?_⟩
 · obtain ⟨i,hi,rfl⟩:=List.mem_map.1 hk
   exact (c1 i (List.mem_range.1 hi)).2
 · rw [zdW,show ((List.range u.length).map c).length=u.length by simp,← c3]
   exact qg fun i hi=>by rw [hkg i hi]
 · rw [hC]
   exact qg fun i hi=>by rw [hkg i hi]
 · rw [hC]
   exact c6 ks h1 h2 h3
theorem Wm (L:Nat) : ∀ ks:List Nat,(∀ k∈ks,k≤L)→Jq (L+1) ks=2*Jq L ks
 | [],_=>rfl
 | k::ks,h=>by
   rw [Xb,Xb,Wm L ks fun x hx=>h x (List.mem_cons_of_mem _ hx),show L+1-k=(L-k)+1 by have:=h k List.mem_cons_self; omega,Nat.pow_succ]
   omega
theorem zin (many many2:List Int) (u:List Nat) (L L2 n:Nat) (h:u.length<2):ofL many u L n=ofL many2 u L2 n:=by
 rcases Nat.lt_or_ge u.length 1 with h0 | h0
 · have hu0:u=[]:=List.eq_nil_of_length_eq_zero (by omega)
   subst hu0
   unfold ofL
   rw [if_neg (by simp),if_neg (by simp)]
   simp [qF,jH]
 · unfold ofL
   rw [if_pos (by omega),if_pos (by omega)]
theorem zdw {many:List Int} {n:Nat} {u:List Nat} (hu:IsUsed many n u) (L:Nat) (hk:u.length≤2^L) :
 qH many (ofL many u (L+1) n) n≤qH many (ofL many u L n) n:=by
 rcases Nat.lt_or_ge u.length 2 with h2 | h2
 · rw [zin many many u (L+1) L n h2]
   exact Nat.le_refl _
 · obtain ⟨ks,k1,k2,k3,k4⟩:=(zav hu L h2 hk).1
   have:=(zav hu (L+1) h2 (by rw [Nat.pow_succ]; omega)).2 ks k1 (fun k hk=>by have:=k2 k hk; omega) (by rw [Wm L ks k2,k3,Nat.pow_succ]; omega)
   rw [k4]
   exact this
end Go.Proofs.YtfkcdnaghndgfaaGreatDoor
