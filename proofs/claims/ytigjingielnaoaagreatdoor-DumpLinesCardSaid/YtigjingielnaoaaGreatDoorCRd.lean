/- Package central: Read: its walk. -/
import Derived.Test.YtigjingielnaoaaGreatDoorCHdW
import Derived.Test.YtigjingielnaoaaGreatDoorQAZ
import Derived.Test.YtigjingielnaoaaGreatDoorQBD
import Derived.Test.YtigjingielnaoaaGreatDoorQAG
import Derived.Test.YtigjingielnaoaaGreatDoorQAE
set_option linter.unusedVariables false
set_option linter.unusedSimpArgs false
set_option linter.unusedSectionVars false
namespace Go.Proofs.YtigjingielnaoaaGreatDoor
open Go.RowKit
theorem zk {fn:Func} {p t u:Tmp} (h:fn.results = #[.cell p 52,.tmp t,.tmp u]) (tmps:Array Value) (w:World) (g:Nat) (c0 c1 c2 c3 c4 c5 c6 c7 c8:Value) (hp:tmps.getD p undef = .pointer (some ⟨g,0,none⟩)) (hB:Blk w g [c0,c1,c2,c3,c4,c5,c6,c7,c8] 52) :
 (results fn tmps).run Tryz.prog w = .ok (.tuple #[.agg #[c0,c1,c2,c3,c4,c5,c6,c7,c8],tmps.getD t undef,tmps.getD u undef]) w:=by
 have h0:=hB.cell 0 rfl
 have h1:=hB.cell 1 rfl
 have h2:=hB.cell 2 rfl
 have h3:=hB.cell 3 rfl
 have h4:=hB.cell 4 rfl
 have h5:=hB.cell 5 rfl
 have h6:=hB.cell 6 rfl
 have h7:=hB.cell 7 rfl
 have h8:=hB.cell 8 rfl
 have hp2:tmps[p]?.getD undef = .pointer (some ⟨g,0,none⟩):=by rw [← hp]; simp
 simp [results,h,go_sem,hp2,h0,h1,h2,h3,h4,h5,h6,h7,h8]
theorem YV (a b:Nat) (ha:a<9223372036854775808) (hb:b<9223372036854775808):bits .and .i64 (a:Int) (b:Int)=((a &&& b:Nat):Int):=by
 show IntKind.i64.wrap ((BitVec.ofInt 64 (a:Int) &&& BitVec.ofInt 64 (b:Int)).toNat:Int)=_
 rw [BitVec.toNat_and,yH 64 a (by omega),yH 64 b (by omega)]
 exact IntWalk.i64_in _ (by have:=Nat.and_le_right (n:=a) (m:=b); omega)
theorem Kw (h:Nat) (hh:h<65536):bits .and .i64 (h:Int) 61440=((h/4096*4096:Nat):Int):=by
 have e:=YV h 61440 (by omega) (by omega)
 rw [show ((61440:Nat):Int)=61440 from rfl] at e
 rw [e,zbL h hh]
set_option maxRecDepth 100000 in
set_option maxHeartbeats 12800000 in
theorem YL (s:ByteArray) (a:Int) (w:World) (hs:s.size≤1000000):Calls Tryz.prog 116 #[.string s,.int .i64 a] w fun e w'=>e = .returned (qf (zt s a))∧Upd [] w w':=by
 by_cases ha:a<0∨(s.size:Int)<a
 · have HV:Hid (zt s a=(zT,0,3)):=Lib.hid (if_pos ha)
   rcases ha with ha | ha
   · go_enter Tryz.func116,Tryz.ntmps116
     go_wp2
     (try simp only [Exit.inBlock,Exit.then]); refine bodyPost_ret (zk rfl _ _ w.heap.size _ _ _ _ _ _ _ _ _ rfl (Blk.new w [.string { data := #[] },.int .i64 0,.int .u32 0,.int .i64 0,.int .i64 0,.int .i64 0,.int .i64 0,.int .u32 0,.int .i64 0] 52)) rfl ⟨?_,(Upd.refl [] w).alloc _⟩
     rw [HV.out]; rfl
   · have ha0 : ¬ a<0:=by omega
     go_enter Tryz.func116,Tryz.ntmps116
     go_wp2
     (try simp only [Exit.inBlock,Exit.then]); refine bodyPost_ret (zk rfl _ _ w.heap.size _ _ _ _ _ _ _ _ _ rfl (Blk.new w [.string { data := #[] },.int .i64 0,.int .u32 0,.int .i64 0,.int .i64 0,.int .i64 0,.int .i64 0,.int .u32 0,.int .i64 0] 52)) rfl ⟨?_,(Upd.refl [] w).alloc _⟩
     rw [HV.out]; rfl
 · obtain ⟨i,rfl⟩ : ∃ i:Nat,a=i:=⟨a.toNat,by omega⟩
   have hi:i≤s.size:=by omega
   have hi0:(0:Int)≤(i:Int):=by omega
   have hi1:(i:Int)≤(s.size:Int):=by omega
   obtain ⟨x,hx⟩ : ∃ x,x=s.extract i s.size:=⟨_,rfl⟩
   have hxs:x.size≤1000000:=by rw [hx,ByteArray.size_extract]; omega
   have HV:Hid (zt s i=yf x):=Lib.hid (by unfold zt; rw [if_neg ha,hx]; rfl)
   have HXD:=Lib.hid hx
   clear ha hx
   have HBAD:=Lib.hid (zcK x)
   have HFINE:Hid (¬ (x.size<46∨x.size<yB x)→(xt ⟨x,0,false⟩).2=⟨x,yB x,false⟩):=Lib.hid (fun h=>by rw [kW x (by omega) (by omega)])
   obtain ⟨b1,b2,b2b,b2c,b3,b4,b5,b6,b7,b7b,b8,b9⟩:=zao ⟨x,0,false⟩
   have HRX:Hid (yf x=if x.size<46∨x.size<yB x then (zT,0,3) else if Jd (xt ⟨x,0,false⟩).1=false then (zT,0,2) else if (zv (xt ⟨x,0,false⟩).1.name).2.2=false then (zT,0,5) else if XZ (xt ⟨x,0,false⟩).1=false then (zT,0,8) else if zM (jV (xt ⟨x,0,false⟩).1)≠0 then (zT,0,zM (jV (xt ⟨x,0,false⟩).1)) else (jV (xt ⟨x,0,false⟩).1,yB x,0)):=Lib.hid rfl
   have HFL:=Lib.hid (fun b w hB=>YM b ⟨x,0,false⟩ w hB hxs (Nat.zero_le _))
   generalize xt ⟨x,0,false⟩=hr at *
   obtain ⟨⟨beg,flags,disk,attr,m,t,sum,l,wh,pos,nm⟩,rd⟩:=hr
   unfold ChD.cells at HFL
   unfold jV XZ Jd at HRX
   dsimp only at *
   have hnz:(zf nm).size≤1000000:=by rw [zh]; omega
   have HPT:=Lib.hid (fun w=>Zc (zf nm) w hnz)
   rw [zz nm b8] at HPT
   have HPS:=Lib.hid (fun h=>xz (l:=nm) h)
   generalize zv nm=pp at *
   obtain ⟨pa,kk,okb⟩:=pp
   unfold jq at HPT
   dsimp only at HPT HPS HRX
   clear hnz b8 b9
   obtain ⟨hb,hbd⟩ : ∃ hb,attr/65536=hb:=⟨_,rfl⟩
   have hbl:hb<65536:=by omega
   rw [hbd] at HRX
   have thb:(attr:Int)/65536=(hb:Int):=by rw [← hbd]; rfl
   have tkd:=Kw hb hbl
   have t511:bits .and .i64 (hb:Int) 511=(hb:Int)%512:=by
    have e:=YV hb 511 (by omega) (by omega)
    rw [show hb &&& 511=hb%512 from Nat.and_two_pow_sub_one_eq_mod hb 9] at e
    exact e
   have HKD:Hid (∀ w,Calls Tryz.prog 161 #[.int .i64 (kk:Nat)] w fun e w'=>e = .returned (.int .i64 (qY kk:Nat))∧w=w'):=Lib.hid (fun w=>by
    refine (zaK (kk:Nat) w).mono ?_
    rintro e w' ⟨he,hw⟩
    refine ⟨he.trans ?_,hw⟩
    unfold qY
    by_cases h2:kk=2
    · rw [if_pos (by omega),if_pos h2]; rfl
    · rw [if_neg (by omega),if_neg h2]; rfl)
   generalize qY kk=ck at *
   generalize hb/4096*4096=hk at *
   have HBD:=Lib.hid hbd
   clear hbd
   go_enter Tryz.func116,Tryz.ntmps116
   have hR0:=Blk.new w [.string { data := #[] },.int .i64 0,.int .u32 0,.int .i64 0,.int .i64 0,.int .i64 0,.int .i64 0,.int .u32 0,.int .i64 0] 52
   have hU0:=(Upd.refl [] w).alloc (.cells #[.string { data := #[] },.int .i64 0,.int .u32 0,.int .i64 0,.int .i64 0,.int .i64 0,.int .i64 0,.int .u32 0,.int .i64 0] 52)
   have hw0:(w.alloc (.cells #[.string { data := #[] },.int .i64 0,.int .u32 0,.int .i64 0,.int .i64 0,.int .i64 0,.int .i64 0,.int .u32 0,.int .i64 0] 52)).heap.size=w.heap.size+1:=by rw [World.size_alloc]
   have HR0:=Lib.hid hR0
   have HU0:=Lib.hid hU0
   clear hR0 hU0
   have HG0:=Lib.hid (Nat.le_refl w.heap.size)
   have HW0:=Lib.hid hw0
   clear hw0
   go_wp2_with fail
   rw [← HXD.out]
   refine (xE x _).mono ?_
   rintro e w1 ⟨rfl,hRd,hu1⟩
   rw [HW0.out] at hRd ⊢
   generalize hr0:w.heap.size=r0 at *
   have HG:Hid (w.heap.size≤r0):=Lib.hid (by omega)
   clear HG0 hr0
   have hR1:=HR0.out.upd hu1 (by simp)
   have hU1:=HU0.out.then hu1
   have HR1:=Lib.hid hR1
   have HU1:=Lib.hid hU1
   have HRd:=Lib.hid hRd
   clear HR0 HU0 hu1 hR1 hU1 hRd
   go_wp2_with fail
   refine (HFL.out _ _ HRd.out).mono ?_
   rintro e w2 ⟨rfl,hRd2,hu2⟩
   have hR2:=HR1.out.upd hu2 (by simp)
   have hU2:=HU1.out.trans hu2 (fun k hk => .inr (by simp at hk; have:=HG.out; omega))
   have hQ3:=Blk.new w2 [.string { data := #[] },.int .i64 (m:Nat),.int .u32 (sum:Nat),.int .i64 (l:Nat),.int .i64 (wh:Nat),.int .i64 0,.int .i64 0,.int .u32 (t:Nat),.int .i64 (pos:Nat),.int .u64 (beg:Nat),.int .u64 (flags:Nat),.int .u64 (disk:Nat),.int .i64 (attr:Nat),.string (zf nm)] 194
   have hR3:=hR2.alloc (.cells #[.string { data := #[] },.int .i64 (m:Nat),.int .u32 (sum:Nat),.int .i64 (l:Nat),.int .i64 (wh:Nat),.int .i64 0,.int .i64 0,.int .u32 (t:Nat),.int .i64 (pos:Nat),.int .u64 (beg:Nat),.int .u64 (flags:Nat),.int .u64 (disk:Nat),.int .i64 (attr:Nat),.string (zf nm)] 194)
   have hRd3:=Blk.alloc hRd2 (.cells #[.string { data := #[] },.int .i64 (m:Nat),.int .u32 (sum:Nat),.int .i64 (l:Nat),.int .i64 (wh:Nat),.int .i64 0,.int .i64 0,.int .u32 (t:Nat),.int .i64 (pos:Nat),.int .u64 (beg:Nat),.int .u64 (flags:Nat),.int .u64 (disk:Nat),.int .i64 (attr:Nat),.string (zf nm)] 194)
   have hU3:=hU2.alloc (.cells #[.string { data := #[] },.int .i64 (m:Nat),.int .u32 (sum:Nat),.int .i64 (l:Nat),.int .i64 (wh:Nat),.int .i64 0,.int .i64 0,.int .u32 (t:Nat),.int .i64 (pos:Nat),.int .u64 (beg:Nat),.int .u64 (flags:Nat),.int .u64 (disk:Nat),.int .i64 (attr:Nat),.string (zf nm)] 194)
   have hq1:r0<w2.heap.size:=hR2.lt
   have hq2:r0+1<w2.heap.size:=Blk.lt hRd2
   have HR3:=Lib.hid hR3
   have HQ3:=Lib.hid hQ3
   have HRd3:=Lib.hid hRd3
   have HU3:=Lib.hid hU3
   clear HR1 HU1 HRd hu2 hR2 hU2 hRd2 hQ3 hR3 hRd3 hU3
   go_wp2_with fail
   generalize w2.heap.size=q0 at *
   refine (HPT.out _).mono ?_
   rintro e w3 ⟨rfl,hu3⟩
   have hQ4:=HQ3.out.upd hu3 (by simp)
   have hR4:=HR3.out.upd hu3 (by simp)
   have hRd4:=Blk.upd HRd3.out hu3 (by simp)
   have hU4:=HU3.out.then hu3
   clear HQ3 HR3 HRd3 HU3 hu3
   have gA:=hQ4.all
   have kA:=hQ4.frz
   have HR4:=Lib.hid hR4
   have HQ4:=Lib.hid hQ4
   have HRd4:=Lib.hid hRd4
   have HU4:=Lib.hid hU4
   clear hR4 hQ4 hRd4 hU4
   go_wp2_with fail
   clear gA kA
   have HR5:=Lib.hid (Blk.setFar (Blk.setFar (Blk.setFar HR4.out (a:=⟨q0,0,none⟩) (.string (zf pa)) (by simp; omega)) (a:=⟨q0,5,none⟩) (.int .i64 (kk:Nat)) (by simp; omega)) (a:=⟨q0,6,none⟩) (.int .i64 ((hb:Int)%512)) (by simp; omega))
   have HQ5:=Lib.hid (Blk.set (Blk.set (Blk.set HQ4.out 0 (.string (zf pa))) 5 (.int .i64 (kk:Nat))) 6 (.int .i64 ((hb:Int)%512)))
   have HRd5:=Lib.hid (Blk.setFar (Blk.setFar (Blk.setFar HRd4.out (a:=⟨q0,0,none⟩) (.string (zf pa)) (by simp; omega)) (a:=⟨q0,5,none⟩) (.int .i64 (kk:Nat)) (by simp; omega)) (a:=⟨q0,6,none⟩) (.int .i64 ((hb:Int)%512)) (by simp; omega))
   have HU5:=Lib.hid (Upd.setCell (Upd.setCell (Upd.setCell HU4.out (p:=⟨q0,0,none⟩) (.inr (by have:=HG.out; dsimp only; omega)) (.string (zf pa))) (p:=⟨q0,5,none⟩) (.inr (by have:=HG.out; dsimp only; omega)) (.int .i64 (kk:Nat))) (p:=⟨q0,6,none⟩) (.inr (by have:=HG.out; dsimp only; omega)) (.int .i64 ((hb:Int)%512)))
   clear HR4 HQ4 HRd4 HU4
   generalize ((w3.setCell ⟨q0,0,none⟩ (.string (zf pa))).setCell ⟨q0,5,none⟩ (.int .i64 (kk:Nat))).setCell ⟨q0,6,none⟩ (.int .i64 ((hb:Int)%512))=w4 at *
   refine (xC _ _ _ HRd5.out).mono ?_
   rintro e w5 ⟨rfl,rfl⟩
   by_cases hlen:x.size<46∨x.size<yB x
   · have hbd:=HBAD.out hlen
     obtain ⟨rs,rp,rb⟩:=rd
     dsimp only at hbd
     subst hbd
     rw [if_pos hlen] at HRX
     clear hlen HFINE HBAD
     have cA:=HR5.out.all
     have fA:=HR5.out.frz
     go_wp2_with fail
     (try simp only [Exit.inBlock,Exit.then]); refine bodyPost_ret (zk rfl _ _ r0 _ _ _ _ _ _ _ _ _ rfl (Blk.set9 HR5.out _ _ _ _ _ _ _ _ _)) rfl ⟨?_,Upd.set9 HU5.out (.inr HG.out) _ _ _ _ _ _ _ _ _⟩
     rw [HV.out,HRX.out]; rfl
   · have hfn:=HFINE.out hlen
     subst hfn
     rw [if_neg hlen] at HRX
     clear hlen HFINE HBAD
     generalize yB x=HLN at *
     dsimp only
     by_cases e1:beg=33639248
     rotate_left
     · rw [if_pos (by rw [decide_eq_false e1]; rfl)] at HRX
       have t1:((beg:Int) != 33639248)=true:=by rw [bne_iff_ne]; omega
       have gA:=HQ5.out.all
       have cA:=HR5.out.all
       have fA:=HR5.out.frz
       go_wp2_with fail
       (try simp only [Exit.inBlock,Exit.then]); refine bodyPost_ret (zk rfl _ _ r0 _ _ _ _ _ _ _ _ _ rfl (Blk.set9 HR5.out _ _ _ _ _ _ _ _ _)) rfl ⟨?_,Upd.set9 HU5.out (.inr HG.out) _ _ _ _ _ _ _ _ _⟩
       rw [HV.out,HRX.out]; rfl
     · subst e1
       by_cases e2:flags=2048∨flags=2056
       rotate_left
       · rw [if_pos (by rw [decide_eq_false (show ¬ flags=2048 by omega),decide_eq_false (show ¬ flags=2056 by omega)]; rfl)] at HRX
         have t2:((flags:Int) != 2048)=true:=by rw [bne_iff_ne]; omega
         have t3:((flags:Int) != 2056)=true:=by rw [bne_iff_ne]; omega
         have gA:=HQ5.out.all
         have cA:=HR5.out.all
         have fA:=HR5.out.frz
         go_wp2_with fail
         (try simp only [Exit.inBlock,Exit.then]); refine bodyPost_ret (zk rfl _ _ r0 _ _ _ _ _ _ _ _ _ rfl (Blk.set9 HR5.out _ _ _ _ _ _ _ _ _)) rfl ⟨?_,Upd.set9 HU5.out (.inr HG.out) _ _ _ _ _ _ _ _ _⟩
         rw [HV.out,HRX.out]; rfl
       · rcases e2 with e2 | e2
         · subst e2
           by_cases e3:disk=0
           rotate_left
           · rw [if_pos (by rw [decide_eq_false e3,Bool.and_false])] at HRX
             have t4:((disk:Int) != 0)=true:=by rw [bne_iff_ne]; omega
             have gA:=HQ5.out.all
             have cA:=HR5.out.all
             have fA:=HR5.out.frz
             go_wp2_with fail
             (try simp only [Exit.inBlock,Exit.then]); refine bodyPost_ret (zk rfl _ _ r0 _ _ _ _ _ _ _ _ _ rfl (Blk.set9 HR5.out _ _ _ _ _ _ _ _ _)) rfl ⟨?_,Upd.set9 HU5.out (.inr HG.out) _ _ _ _ _ _ _ _ _⟩
             rw [HV.out,HRX.out]; rfl
           · subst e3
             rw [if_neg (by simp)] at HRX
             cases okb with
             | false =>
               rw [if_pos rfl] at HRX
               have gA:=HQ5.out.all
               have cA:=HR5.out.all
               have fA:=HR5.out.frz
               go_wp2_with fail
               (try simp only [Exit.inBlock,Exit.then]); refine bodyPost_ret (zk rfl _ _ r0 _ _ _ _ _ _ _ _ _ rfl (Blk.set9 HR5.out _ _ _ _ _ _ _ _ _)) rfl ⟨?_,Upd.set9 HU5.out (.inr HG.out) _ _ _ _ _ _ _ _ _⟩
               rw [HV.out,HRX.out]; rfl
             | true =>
               rw [if_neg (by simp)] at HRX
               have gA:=HQ5.out.all
               go_wp2_with fail
               by_cases e4:hk=ck
               rotate_left
               · rw [if_pos (decide_eq_false e4)] at HRX
                 have t5:((hk:Int) != (ck:Int))=true:=by rw [bne_iff_ne]; omega
                 go_quiet ((go_at_call 161; exact Calls.quiet_of_same ((HKD.out _).mono fun _ _ ⟨h1,h2⟩=>⟨h1,h2.symm⟩)))
                 rename_i nq
                 clear gA
                 have HR6:=Lib.hid (Blk.drewN HR5.out nq)
                 have HU6:=Lib.hid (Upd.drewN HU5.out nq)
                 have cA:=HR6.out.all
                 have fA:=HR6.out.frz
                 go_wp2_with fail
                 (try simp only [Exit.inBlock,Exit.then]); refine bodyPost_ret (zk rfl _ _ r0 _ _ _ _ _ _ _ _ _ rfl (Blk.set9 HR6.out _ _ _ _ _ _ _ _ _)) rfl ⟨?_,Upd.set9 HU6.out (.inr HG.out) _ _ _ _ _ _ _ _ _⟩
                 rw [HV.out,HRX.out]; rfl
               · subst e4
                 rw [if_neg (by simp)] at HRX
                 have t5:((hk:Int) != (hk:Int))=false:=by rw [bne_eq_false_iff_eq]
                 have hps:=HPS.out (by trivial)
                 have hfits:(⟨zf pa,(m:Nat),sum,(l:Nat),(wh:Nat),(kk:Nat),(hb%512:Nat),t,(pos:Nat)⟩:RecD).Fits:=⟨by dsimp only; rw [zh]; omega,by dsimp only; omega,by dsimp only; omega⟩
                 have HRT:=Lib.hid (fun w=>jL _ w hfits)
                 unfold RecD.v at HRT
                 dsimp only at HRT
                 obtain ⟨er,her⟩ : ∃ er,zM (⟨zf pa,(m:Nat),sum,(l:Nat),(wh:Nat),(kk:Nat),(hb%512:Nat),t,(pos:Nat)⟩:RecD)=er:=⟨_,rfl⟩
                 rw [her] at HRT HRX
                 have HER:=Lib.hid her
                 clear her
                 go_quiet ((go_at_call 161; exact Calls.quiet_of_same ((HKD.out _).mono fun _ _ ⟨h1,h2⟩=>⟨h1,h2.symm⟩)))
                 rename_i nq
                 go_wp2_with fail
                 refine (HRT.out _).mono ?_
                 rintro e w6 ⟨rfl,hu6⟩
                 clear gA
                 have HR6:=Lib.hid ((Blk.drewN HR5.out nq).upd hu6 (by simp))
                 have HQ6:=Lib.hid ((Blk.drewN HQ5.out nq).upd hu6 (by simp))
                 have HRd6:=Lib.hid (Blk.upd (Blk.drewN HRd5.out nq) hu6 (by simp))
                 have HU6:=Lib.hid ((Upd.drewN HU5.out nq).then hu6)
                 clear HR5 HQ5 HRd5 HU5 hu6
                 by_cases e5:er=0
                 rotate_left
                 · rw [if_pos e5] at HRX
                   have t6:((er:Int) != 0)=true:=by rw [bne_iff_ne]; omega
                   have cA:=HR6.out.all
                   have fA:=HR6.out.frz
                   go_wp2_with fail
                   (try simp only [Exit.inBlock,Exit.then]); refine bodyPost_ret (zk rfl _ _ r0 _ _ _ _ _ _ _ _ _ rfl (Blk.set9 HR6.out _ _ _ _ _ _ _ _ _)) rfl ⟨?_,Upd.set9 HU6.out (.inr HG.out) _ _ _ _ _ _ _ _ _⟩
                   rw [HV.out,HRX.out]; rfl
                 · subst e5
                   rw [if_neg (by simp)] at HRX
                   have cA:=HR6.out.all
                   have fA:=HR6.out.frz
                   go_wp2_with fail
                   refine wp_region_held_drew (S:=fun w'=>Blk w' q0 [.string (zf pa),.int .i64 (m:Nat),.int .u32 (sum:Nat),.int .i64 (l:Nat),.int .i64 (wh:Nat),.int .i64 (kk:Nat),.int .i64 ((hb:Int)%512),.int .u32 (t:Nat),.int .i64 (pos:Nat),.int .u64 ((33639248:Nat):Int),.int .u64 ((2048:Nat):Int),.int .u64 ((0:Nat):Int),.int .i64 (attr:Nat),.string (zf nm)] 194∧Rdr w' (r0+1) ⟨x,HLN,false⟩) (by kernel_rfl) ⟨HQ6.out,HRd6.out⟩ (fun hHeld=>?_)
                   change wpAnyH _ _ _ _ _ 7 #[false,false,false,false,false,false,false] _ _
                   refine xn (i:=0) (d:=some 92) (v:=?v0_1) rfl rfl (by kernel_rfl) (by kernel_rfl) (by kernel_rfl) (fun _ _ _ h=>h) (by rfl) ?hy0_1 (by assumption) ?r0_1
                   case hy0_1=>(intro w hSw; (try dsimp only at hSw); go_simp; try with_reducible rfl)
                   try simp only [Act.put,List.setIfInBounds_toArray,List.set_cons_zero,List.set_cons_succ]
                   change wpAnyH _ _ _ _ _ 6 #[true,false,false,false,false,false,false] _ _
                   refine xn (i:=1) (d:=some 93) (v:=?v1_2) rfl rfl (by kernel_rfl) (by kernel_rfl) (by kernel_rfl) (fun _ _ _ h=>h) (by rfl) ?hy1_2 (by assumption) ?r1_2
                   case hy1_2=>(intro w hSw; have qA:=hSw.1.all; go_simp; try with_reducible rfl)
                   try simp only [Act.put,List.setIfInBounds_toArray,List.set_cons_zero,List.set_cons_succ]
                   change wpAnyH _ _ _ _ _ 5 #[true,true,false,false,false,false,false] _ _
                   refine xn (i:=2) (d:=some 94) (v:=?v2_3) rfl rfl (by kernel_rfl) (by kernel_rfl) (by kernel_rfl) (fun _ _ _ h=>h) (by rfl) ?hy2_3 (by assumption) ?r2_3
                   case hy2_3=>(intro w hSw; (try dsimp only at hSw); go_simp; try with_reducible rfl)
                   try simp only [Act.put,List.setIfInBounds_toArray,List.set_cons_zero,List.set_cons_succ]
                   change wpAnyH _ _ _ _ _ 4 #[true,true,true,false,false,false,false] _ _
                   refine wpAnyH_ready (rs:=[3]) (by kernel_rfl) (by simp) ?_
                   refine AllReadyH.cons rfl (fun K hK=>?_) AllReadyH.nil
                   go_simp
                   refine (kD _ _ _ hHeld.2).mono ?_
                   rintro e z3 ⟨rfl,rfl⟩
                   go_wp2
                   refine hK.out _ _ hHeld (fun hHeld=>?_)
                   clear hK K
                   try simp only [Act.put,List.setIfInBounds_toArray,List.set_cons_zero,List.set_cons_succ]
                   change wpAnyH _ _ _ _ _ 3 #[true,true,true,true,false,false,false] _ _
                   refine wpAnyH_ready (rs:=[4]) (by kernel_rfl) (by simp) ?_
                   refine AllReadyH.cons rfl (fun K hK=>?_) AllReadyH.nil
                   go_simp
                   have hS9:Blk (((((((((w6.setCell ⟨r0,0,none⟩ (.string (zf pa))).setCell ⟨r0,1,none⟩ (.int .i64 (m:Nat))).setCell ⟨r0,2,none⟩ (.int .u32 (sum:Nat))).setCell ⟨r0,3,none⟩ (.int .i64 (l:Nat))).setCell ⟨r0,4,none⟩ (.int .i64 (wh:Nat))).setCell ⟨r0,5,none⟩ (.int .i64 (kk:Nat))).setCell ⟨r0,6,none⟩ (.int .i64 ((hb:Int)%512))).setCell ⟨r0,7,none⟩ (.int .u32 (t:Nat))).setCell ⟨r0,8,none⟩ (.int .i64 (pos:Nat))).drew q0 [.string (zf pa),.int .i64 (m:Nat),.int .u32 (sum:Nat),.int .i64 (l:Nat),.int .i64 (wh:Nat),.int .i64 (kk:Nat),.int .i64 ((hb:Int)%512),.int .u32 (t:Nat),.int .i64 (pos:Nat),.int .u64 ((33639248:Nat):Int),.int .u64 ((2048:Nat):Int),.int .u64 ((0:Nat):Int),.int .i64 (attr:Nat),.string (zf nm)] 194∧Rdr (((((((((w6.setCell ⟨r0,0,none⟩ (.string (zf pa))).setCell ⟨r0,1,none⟩ (.int .i64 (m:Nat))).setCell ⟨r0,2,none⟩ (.int .u32 (sum:Nat))).setCell ⟨r0,3,none⟩ (.int .i64 (l:Nat))).setCell ⟨r0,4,none⟩ (.int .i64 (wh:Nat))).setCell ⟨r0,5,none⟩ (.int .i64 (kk:Nat))).setCell ⟨r0,6,none⟩ (.int .i64 ((hb:Int)%512))).setCell ⟨r0,7,none⟩ (.int .u32 (t:Nat))).setCell ⟨r0,8,none⟩ (.int .i64 (pos:Nat))).drew (r0+1) ⟨x,HLN,false⟩:=⟨Blk.drew (Blk.setFar (Blk.setFar (Blk.setFar (Blk.setFar (Blk.setFar (Blk.setFar (Blk.setFar (Blk.setFar (Blk.setFar HQ6.out (a:=⟨r0,0,none⟩) (.string (zf pa)) (by simp<;>omega)) (a:=⟨r0,1,none⟩) (.int .i64 (m:Nat)) (by simp<;>omega)) (a:=⟨r0,2,none⟩) (.int .u32 (sum:Nat)) (by simp<;>omega)) (a:=⟨r0,3,none⟩) (.int .i64 (l:Nat)) (by simp<;>omega)) (a:=⟨r0,4,none⟩) (.int .i64 (wh:Nat)) (by simp<;>omega)) (a:=⟨r0,5,none⟩) (.int .i64 (kk:Nat)) (by simp<;>omega)) (a:=⟨r0,6,none⟩) (.int .i64 ((hb:Int)%512)) (by simp<;>omega)) (a:=⟨r0,7,none⟩) (.int .u32 (t:Nat)) (by simp<;>omega)) (a:=⟨r0,8,none⟩) (.int .i64 (pos:Nat)) (by simp<;>omega)),Blk.drew (Blk.setFar (Blk.setFar (Blk.setFar (Blk.setFar (Blk.setFar (Blk.setFar (Blk.setFar (Blk.setFar (Blk.setFar HRd6.out (a:=⟨r0,0,none⟩) (.string (zf pa)) (by simp<;>omega)) (a:=⟨r0,1,none⟩) (.int .i64 (m:Nat)) (by simp<;>omega)) (a:=⟨r0,2,none⟩) (.int .u32 (sum:Nat)) (by simp<;>omega)) (a:=⟨r0,3,none⟩) (.int .i64 (l:Nat)) (by simp<;>omega)) (a:=⟨r0,4,none⟩) (.int .i64 (wh:Nat)) (by simp<;>omega)) (a:=⟨r0,5,none⟩) (.int .i64 (kk:Nat)) (by simp<;>omega)) (a:=⟨r0,6,none⟩) (.int .i64 ((hb:Int)%512)) (by simp<;>omega)) (a:=⟨r0,7,none⟩) (.int .u32 (t:Nat)) (by simp<;>omega)) (a:=⟨r0,8,none⟩) (.int .i64 (pos:Nat)) (by simp<;>omega))⟩
                   go_wp2
                   refine hK.out _ _ hS9 (fun hHeld=>?_)
                   clear hK K
                   try simp only [Act.put,List.setIfInBounds_toArray,List.set_cons_zero,List.set_cons_succ]
                   change wpAnyH _ _ _ _ _ 2 #[true,true,true,true,true,false,false] _ _
                   refine xn (i:=5) (d:=some 5) (v:=?v5_6) rfl rfl (by kernel_rfl) (by kernel_rfl) (by kernel_rfl) (fun _ _ _ h=>h) (by rfl) ?hy5_6 (by assumption) ?r5_6
                   case hy5_6=>(intro w hSw; (try dsimp only at hSw); go_simp; try with_reducible rfl)
                   try simp only [Act.put,List.setIfInBounds_toArray,List.set_cons_zero,List.set_cons_succ]
                   change wpAnyH _ _ _ _ _ 1 #[true,true,true,true,true,true,false] _ _
                   refine xn (i:=6) (d:=some 6) (v:=?v6_7) rfl rfl (by kernel_rfl) (by kernel_rfl) (by kernel_rfl) (fun _ _ _ h=>h) (by rfl) ?hy6_7 (by assumption) ?r6_7
                   case hy6_7=>(intro w hSw; (try dsimp only at hSw); go_simp; try with_reducible rfl)
                   try simp only [Act.put,List.setIfInBounds_toArray,List.set_cons_zero,List.set_cons_succ]
                   change wpAnyH _ _ _ _ _ 0 #[true,true,true,true,true,true,true] _ _
                   refine wpAnyH_done (by kernel_rfl) ?_ 0
                   go_wp2_with fail
                   (try simp only [Exit.inBlock,Exit.then]); refine bodyPost_ret (zk rfl _ _ r0 _ _ _ _ _ _ _ _ _ rfl (Blk.drew (Blk.set9 HR6.out _ _ _ _ _ _ _ _ _))) rfl ⟨?_,(Upd.set9 HU6.out (.inr HG.out) _ _ _ _ _ _ _ _ _).drew⟩
                   rw [HV.out,HRX.out]; simp [qf,RecD.v]
         · subst e2
           by_cases e3:disk=0
           rotate_left
           · rw [if_pos (by rw [decide_eq_false e3,Bool.and_false])] at HRX
             have t4:((disk:Int) != 0)=true:=by rw [bne_iff_ne]; omega
             have gA:=HQ5.out.all
             have cA:=HR5.out.all
             have fA:=HR5.out.frz
             go_wp2_with fail
             (try simp only [Exit.inBlock,Exit.then]); refine bodyPost_ret (zk rfl _ _ r0 _ _ _ _ _ _ _ _ _ rfl (Blk.set9 HR5.out _ _ _ _ _ _ _ _ _)) rfl ⟨?_,Upd.set9 HU5.out (.inr HG.out) _ _ _ _ _ _ _ _ _⟩
             rw [HV.out,HRX.out]; rfl
           · subst e3
             rw [if_neg (by simp)] at HRX
             cases okb with
             | false =>
               rw [if_pos rfl] at HRX
               have gA:=HQ5.out.all
               have cA:=HR5.out.all
               have fA:=HR5.out.frz
               go_wp2_with fail
               (try simp only [Exit.inBlock,Exit.then]); refine bodyPost_ret (zk rfl _ _ r0 _ _ _ _ _ _ _ _ _ rfl (Blk.set9 HR5.out _ _ _ _ _ _ _ _ _)) rfl ⟨?_,Upd.set9 HU5.out (.inr HG.out) _ _ _ _ _ _ _ _ _⟩
               rw [HV.out,HRX.out]; rfl
             | true =>
               rw [if_neg (by simp)] at HRX
               have gA:=HQ5.out.all
               go_wp2_with fail
               by_cases e4:hk=ck
               rotate_left
               · rw [if_pos (decide_eq_false e4)] at HRX
                 have t5:((hk:Int) != (ck:Int))=true:=by rw [bne_iff_ne]; omega
                 go_quiet ((go_at_call 161; exact Calls.quiet_of_same ((HKD.out _).mono fun _ _ ⟨h1,h2⟩=>⟨h1,h2.symm⟩)))
                 rename_i nq
                 clear gA
                 have HR6:=Lib.hid (Blk.drewN HR5.out nq)
                 have HU6:=Lib.hid (Upd.drewN HU5.out nq)
                 have cA:=HR6.out.all
                 have fA:=HR6.out.frz
                 go_wp2_with fail
                 (try simp only [Exit.inBlock,Exit.then]); refine bodyPost_ret (zk rfl _ _ r0 _ _ _ _ _ _ _ _ _ rfl (Blk.set9 HR6.out _ _ _ _ _ _ _ _ _)) rfl ⟨?_,Upd.set9 HU6.out (.inr HG.out) _ _ _ _ _ _ _ _ _⟩
                 rw [HV.out,HRX.out]; rfl
               · subst e4
                 rw [if_neg (by simp)] at HRX
                 have t5:((hk:Int) != (hk:Int))=false:=by rw [bne_eq_false_iff_eq]
                 have hps:=HPS.out (by trivial)
                 have hfits:(⟨zf pa,(m:Nat),sum,(l:Nat),(wh:Nat),(kk:Nat),(hb%512:Nat),t,(pos:Nat)⟩:RecD).Fits:=⟨by dsimp only; rw [zh]; omega,by dsimp only; omega,by dsimp only; omega⟩
                 have HRT:=Lib.hid (fun w=>jL _ w hfits)
                 unfold RecD.v at HRT
                 dsimp only at HRT
                 obtain ⟨er,her⟩ : ∃ er,zM (⟨zf pa,(m:Nat),sum,(l:Nat),(wh:Nat),(kk:Nat),(hb%512:Nat),t,(pos:Nat)⟩:RecD)=er:=⟨_,rfl⟩
                 rw [her] at HRT HRX
                 have HER:=Lib.hid her
                 clear her
                 go_quiet ((go_at_call 161; exact Calls.quiet_of_same ((HKD.out _).mono fun _ _ ⟨h1,h2⟩=>⟨h1,h2.symm⟩)))
                 rename_i nq
                 go_wp2_with fail
                 refine (HRT.out _).mono ?_
                 rintro e w6 ⟨rfl,hu6⟩
                 clear gA
                 have HR6:=Lib.hid ((Blk.drewN HR5.out nq).upd hu6 (by simp))
                 have HQ6:=Lib.hid ((Blk.drewN HQ5.out nq).upd hu6 (by simp))
                 have HRd6:=Lib.hid (Blk.upd (Blk.drewN HRd5.out nq) hu6 (by simp))
                 have HU6:=Lib.hid ((Upd.drewN HU5.out nq).then hu6)
                 clear HR5 HQ5 HRd5 HU5 hu6
                 by_cases e5:er=0
                 rotate_left
                 · rw [if_pos e5] at HRX
                   have t6:((er:Int) != 0)=true:=by rw [bne_iff_ne]; omega
                   have cA:=HR6.out.all
                   have fA:=HR6.out.frz
                   go_wp2_with fail
                   (try simp only [Exit.inBlock,Exit.then]); refine bodyPost_ret (zk rfl _ _ r0 _ _ _ _ _ _ _ _ _ rfl (Blk.set9 HR6.out _ _ _ _ _ _ _ _ _)) rfl ⟨?_,Upd.set9 HU6.out (.inr HG.out) _ _ _ _ _ _ _ _ _⟩
                   rw [HV.out,HRX.out]; rfl
                 · subst e5
                   rw [if_neg (by simp)] at HRX
                   have cA:=HR6.out.all
                   have fA:=HR6.out.frz
                   go_wp2_with fail
                   refine wp_region_held_drew (S:=fun w'=>Blk w' q0 [.string (zf pa),.int .i64 (m:Nat),.int .u32 (sum:Nat),.int .i64 (l:Nat),.int .i64 (wh:Nat),.int .i64 (kk:Nat),.int .i64 ((hb:Int)%512),.int .u32 (t:Nat),.int .i64 (pos:Nat),.int .u64 ((33639248:Nat):Int),.int .u64 ((2056:Nat):Int),.int .u64 ((0:Nat):Int),.int .i64 (attr:Nat),.string (zf nm)] 194∧Rdr w' (r0+1) ⟨x,HLN,false⟩) (by kernel_rfl) ⟨HQ6.out,HRd6.out⟩ (fun hHeld=>?_)
                   change wpAnyH _ _ _ _ _ 7 #[false,false,false,false,false,false,false] _ _
                   refine xn (i:=0) (d:=some 92) (v:=?v0_8) rfl rfl (by kernel_rfl) (by kernel_rfl) (by kernel_rfl) (fun _ _ _ h=>h) (by rfl) ?hy0_8 (by assumption) ?r0_8
                   case hy0_8=>(intro w hSw; (try dsimp only at hSw); go_simp; try with_reducible rfl)
                   try simp only [Act.put,List.setIfInBounds_toArray,List.set_cons_zero,List.set_cons_succ]
                   change wpAnyH _ _ _ _ _ 6 #[true,false,false,false,false,false,false] _ _
                   refine xn (i:=1) (d:=some 93) (v:=?v1_9) rfl rfl (by kernel_rfl) (by kernel_rfl) (by kernel_rfl) (fun _ _ _ h=>h) (by rfl) ?hy1_9 (by assumption) ?r1_9
                   case hy1_9=>(intro w hSw; have qA:=hSw.1.all; go_simp; try with_reducible rfl)
                   try simp only [Act.put,List.setIfInBounds_toArray,List.set_cons_zero,List.set_cons_succ]
                   change wpAnyH _ _ _ _ _ 5 #[true,true,false,false,false,false,false] _ _
                   refine xn (i:=2) (d:=some 94) (v:=?v2_10) rfl rfl (by kernel_rfl) (by kernel_rfl) (by kernel_rfl) (fun _ _ _ h=>h) (by rfl) ?hy2_10 (by assumption) ?r2_10
                   case hy2_10=>(intro w hSw; (try dsimp only at hSw); go_simp; try with_reducible rfl)
                   try simp only [Act.put,List.setIfInBounds_toArray,List.set_cons_zero,List.set_cons_succ]
                   change wpAnyH _ _ _ _ _ 4 #[true,true,true,false,false,false,false] _ _
                   refine wpAnyH_ready (rs:=[3]) (by kernel_rfl) (by simp) ?_
                   refine AllReadyH.cons rfl (fun K hK=>?_) AllReadyH.nil
                   go_simp
                   refine (kD _ _ _ hHeld.2).mono ?_
                   rintro e z3 ⟨rfl,rfl⟩
                   go_wp2
                   refine hK.out _ _ hHeld (fun hHeld=>?_)
                   clear hK K
                   try simp only [Act.put,List.setIfInBounds_toArray,List.set_cons_zero,List.set_cons_succ]
                   change wpAnyH _ _ _ _ _ 3 #[true,true,true,true,false,false,false] _ _
                   refine wpAnyH_ready (rs:=[4]) (by kernel_rfl) (by simp) ?_
                   refine AllReadyH.cons rfl (fun K hK=>?_) AllReadyH.nil
                   go_simp
                   have hS9:Blk (((((((((w6.setCell ⟨r0,0,none⟩ (.string (zf pa))).setCell ⟨r0,1,none⟩ (.int .i64 (m:Nat))).setCell ⟨r0,2,none⟩ (.int .u32 (sum:Nat))).setCell ⟨r0,3,none⟩ (.int .i64 (l:Nat))).setCell ⟨r0,4,none⟩ (.int .i64 (wh:Nat))).setCell ⟨r0,5,none⟩ (.int .i64 (kk:Nat))).setCell ⟨r0,6,none⟩ (.int .i64 ((hb:Int)%512))).setCell ⟨r0,7,none⟩ (.int .u32 (t:Nat))).setCell ⟨r0,8,none⟩ (.int .i64 (pos:Nat))).drew q0 [.string (zf pa),.int .i64 (m:Nat),.int .u32 (sum:Nat),.int .i64 (l:Nat),.int .i64 (wh:Nat),.int .i64 (kk:Nat),.int .i64 ((hb:Int)%512),.int .u32 (t:Nat),.int .i64 (pos:Nat),.int .u64 ((33639248:Nat):Int),.int .u64 ((2056:Nat):Int),.int .u64 ((0:Nat):Int),.int .i64 (attr:Nat),.string (zf nm)] 194∧Rdr (((((((((w6.setCell ⟨r0,0,none⟩ (.string (zf pa))).setCell ⟨r0,1,none⟩ (.int .i64 (m:Nat))).setCell ⟨r0,2,none⟩ (.int .u32 (sum:Nat))).setCell ⟨r0,3,none⟩ (.int .i64 (l:Nat))).setCell ⟨r0,4,none⟩ (.int .i64 (wh:Nat))).setCell ⟨r0,5,none⟩ (.int .i64 (kk:Nat))).setCell ⟨r0,6,none⟩ (.int .i64 ((hb:Int)%512))).setCell ⟨r0,7,none⟩ (.int .u32 (t:Nat))).setCell ⟨r0,8,none⟩ (.int .i64 (pos:Nat))).drew (r0+1) ⟨x,HLN,false⟩:=⟨Blk.drew (Blk.setFar (Blk.setFar (Blk.setFar (Blk.setFar (Blk.setFar (Blk.setFar (Blk.setFar (Blk.setFar (Blk.setFar HQ6.out (a:=⟨r0,0,none⟩) (.string (zf pa)) (by simp<;>omega)) (a:=⟨r0,1,none⟩) (.int .i64 (m:Nat)) (by simp<;>omega)) (a:=⟨r0,2,none⟩) (.int .u32 (sum:Nat)) (by simp<;>omega)) (a:=⟨r0,3,none⟩) (.int .i64 (l:Nat)) (by simp<;>omega)) (a:=⟨r0,4,none⟩) (.int .i64 (wh:Nat)) (by simp<;>omega)) (a:=⟨r0,5,none⟩) (.int .i64 (kk:Nat)) (by simp<;>omega)) (a:=⟨r0,6,none⟩) (.int .i64 ((hb:Int)%512)) (by simp<;>omega)) (a:=⟨r0,7,none⟩) (.int .u32 (t:Nat)) (by simp<;>omega)) (a:=⟨r0,8,none⟩) (.int .i64 (pos:Nat)) (by simp<;>omega)),Blk.drew (Blk.setFar (Blk.setFar (Blk.setFar (Blk.setFar (Blk.setFar (Blk.setFar (Blk.setFar (Blk.setFar (Blk.setFar HRd6.out (a:=⟨r0,0,none⟩) (.string (zf pa)) (by simp<;>omega)) (a:=⟨r0,1,none⟩) (.int .i64 (m:Nat)) (by simp<;>omega)) (a:=⟨r0,2,none⟩) (.int .u32 (sum:Nat)) (by simp<;>omega)) (a:=⟨r0,3,none⟩) (.int .i64 (l:Nat)) (by simp<;>omega)) (a:=⟨r0,4,none⟩) (.int .i64 (wh:Nat)) (by simp<;>omega)) (a:=⟨r0,5,none⟩) (.int .i64 (kk:Nat)) (by simp<;>omega)) (a:=⟨r0,6,none⟩) (.int .i64 ((hb:Int)%512)) (by simp<;>omega)) (a:=⟨r0,7,none⟩) (.int .u32 (t:Nat)) (by simp<;>omega)) (a:=⟨r0,8,none⟩) (.int .i64 (pos:Nat)) (by simp<;>omega))⟩
                   go_wp2
                   refine hK.out _ _ hS9 (fun hHeld=>?_)
                   clear hK K
                   try simp only [Act.put,List.setIfInBounds_toArray,List.set_cons_zero,List.set_cons_succ]
                   change wpAnyH _ _ _ _ _ 2 #[true,true,true,true,true,false,false] _ _
                   refine xn (i:=5) (d:=some 5) (v:=?v5_13) rfl rfl (by kernel_rfl) (by kernel_rfl) (by kernel_rfl) (fun _ _ _ h=>h) (by rfl) ?hy5_13 (by assumption) ?r5_13
                   case hy5_13=>(intro w hSw; (try dsimp only at hSw); go_simp; try with_reducible rfl)
                   try simp only [Act.put,List.setIfInBounds_toArray,List.set_cons_zero,List.set_cons_succ]
                   change wpAnyH _ _ _ _ _ 1 #[true,true,true,true,true,true,false] _ _
                   refine xn (i:=6) (d:=some 6) (v:=?v6_14) rfl rfl (by kernel_rfl) (by kernel_rfl) (by kernel_rfl) (fun _ _ _ h=>h) (by rfl) ?hy6_14 (by assumption) ?r6_14
                   case hy6_14=>(intro w hSw; (try dsimp only at hSw); go_simp; try with_reducible rfl)
                   try simp only [Act.put,List.setIfInBounds_toArray,List.set_cons_zero,List.set_cons_succ]
                   change wpAnyH _ _ _ _ _ 0 #[true,true,true,true,true,true,true] _ _
                   refine wpAnyH_done (by kernel_rfl) ?_ 0
                   go_wp2_with fail
                   (try simp only [Exit.inBlock,Exit.then]); refine bodyPost_ret (zk rfl _ _ r0 _ _ _ _ _ _ _ _ _ rfl (Blk.drew (Blk.set9 HR6.out _ _ _ _ _ _ _ _ _))) rfl ⟨?_,(Upd.set9 HU6.out (.inr HG.out) _ _ _ _ _ _ _ _ _).drew⟩
                   rw [HV.out,HRX.out]; simp [qf,RecD.v]
end Go.Proofs.YtigjingielnaoaaGreatDoor
