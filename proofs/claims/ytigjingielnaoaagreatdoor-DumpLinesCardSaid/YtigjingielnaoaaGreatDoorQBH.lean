/- Package swingleref20: Read: flags 2048, kind 2: its walk. -/
import Derived.Test.YtigjingielnaoaaGreatDoorCRd
import Derived.Test.YtigjingielnaoaaGreatDoorQBG
import Derived.Test.YtigjingielnaoaaGreatDoorQAM
set_option linter.unusedVariables false
set_option linter.unusedSimpArgs false
set_option linter.unusedSectionVars false
namespace Go.Proofs.YtigjingielnaoaaGreatDoor
open Go.RowKit
set_option maxRecDepth 100000 in
set_option maxHeartbeats 12800000 in
theorem ZC (s x:ByteArray) (i:Nat) (w:World) (hs:s.size≤1000000) (hi:i≤s.size) (hx:x=s.extract i s.size) (g46:46≤x.size) (hl1:46+gN x 28 2+gN x 30 2+gN x 32 2≤x.size) (gbe:gN x 0 4=33639248) (gfl:gN x 8 2=2048) (g34:x[34].toNat=0) (g35:x[35].toNat=0) (pa:List Nat) (hpp:zv (((ze x).drop 46).take (gN x 28 2))=(pa,2,true)) :
 Calls Tryz.prog 84 #[.string s,.int .i64 (i:Nat)] w fun e w'=>e = .returned (qf (zt s i))∧Upd [] w w':=by
 have hi0:(0:Int)≤(i:Int):=by omega
 have hi1:(i:Int)≤(s.size:Int):=by omega
 have hxs:x.size=s.size-i:=by rw [hx,ByteArray.size_extract]; omega
 have HV:Hid (zt s i=yf x):=Lib.hid (by unfold zt; rw [if_neg (by omega),hx]; rfl)
 have hz : ¬ (s.size:Int)-(i:Int)<46:=by omega
 have hx0:(46:Int)≤(x.size:Int):=by omega
 have hxm:x.size≤1000000:=by omega
 have HAlo:=Lib.hid (fun w=>zo x 28 2 w (by omega) (by omega) (by omega))
 have Blo:=zC x 28 2
 have HAex:=Lib.hid (fun w=>zo x 30 2 w (by omega) (by omega) (by omega))
 have Bex:=zC x 30 2
 have HAre:=Lib.hid (fun w=>zo x 32 2 w (by omega) (by omega) (by omega))
 have Bre:=zC x 32 2
 have HAfl:=Lib.hid (fun w=>zo x 8 2 w (by omega) (by omega) (by omega))
 have Bfl:=zC x 8 2
 have HAhi:=Lib.hid (fun w=>zo x 40 2 w (by omega) (by omega) (by omega))
 have Bhi:=zC x 40 2
 have HAme:=Lib.hid (fun w=>zo x 10 2 w (by omega) (by omega) (by omega))
 have Bme:=zC x 10 2
 have HAti:=Lib.hid (fun w=>zo x 12 4 w (by omega) (by omega) (by omega))
 have Bti:=zC x 12 4
 have HAsu:=Lib.hid (fun w=>zo x 16 4 w (by omega) (by omega) (by omega))
 have Bsu:=zC x 16 4
 have HAla:=Lib.hid (fun w=>zo x 20 4 w (by omega) (by omega) (by omega))
 have Bla:=zC x 20 4
 have HAwh:=Lib.hid (fun w=>zo x 24 4 w (by omega) (by omega) (by omega))
 have Bwh:=zC x 24 4
 have HAps:=Lib.hid (fun w=>zo x 42 4 w (by omega) (by omega) (by omega))
 have Bps:=zC x 42 4
 have HM:=Lib.hid (vq x (by omega) [80,75,1,2] 33639248 rfl (by decide))
 have HX:=Lib.hid (jv x g46 hl1 ⟨gbe,by omega,g34,g35⟩ pa 2 hpp)
 have hps:pa.length≤200:=by have:=xz (l:=((ze x).drop 46).take (gN x 28 2)) (by rw [hpp]); rw [hpp] at this; exact this
 have hfits:=kT x pa 2 hps
 have HRT:=Lib.hid (fun w=>xF _ w hfits)
 have HPT:=Lib.hid (fun w=>qm (x.extract 46 (46+gN x 28 2)) w (by rw [ByteArray.size_extract]; omega))
 have hbx:ze (x.extract 46 (46+gN x 28 2))=((ze x).drop 46).take (gN x 28 2):=by rw [zr,Nat.add_sub_cancel_left]
 rw [hbx,hpp] at HPT
 clear hbx hpp hfits
 unfold jq at HPT
 dsimp only at HPT
 obtain ⟨er,her⟩ : ∃ er,zM (vr x pa 2)=er:=⟨_,rfl⟩
 rw [her] at HRT HX
 have HER:=Lib.hid her
 clear her
 unfold RecD.v at HRT
 unfold vr at HRT HX
 dsimp only at HRT
 have t34:((x[34].toNat:Int) != 0)=false:=by rw [bne_eq_false_iff_eq]; omega
 have t35:((x[35].toNat:Int) != 0)=false:=by rw [bne_eq_false_iff_eq]; omega
 generalize gN x 0 4=be at *
 generalize gN x 28 2=lo at *
 generalize gN x 30 2=ex at *
 generalize gN x 32 2=re at *
 generalize gN x 8 2=fl at *
 generalize gN x 40 2=hi at *
 generalize gN x 10 2=me at *
 generalize gN x 12 4=ti at *
 generalize gN x 16 4=su at *
 generalize gN x 20 4=la at *
 generalize gN x 24 4=wh at *
 generalize gN x 42 4=ps at *
 simp only [Nat.reducePow] at Blo Bex Bre Bfl Bhi Bme Bti Bsu Bla Bwh Bps
 have HXD:=Lib.hid hx
 clear hx
 subst gbe gfl
 have tm:((x.extract 0 4).toList==[80,75,1,2])=true:=by rw [HM.out]; rfl
 have HCK:Hid (qY 2=16384):=Lib.hid rfl
 rw [HCK.out] at HX
 have tf1:(((2048:Nat):Int) != 2048)=false:=by rw [bne_eq_false_iff_eq]; omega
 go_enter Tryz.func84,Tryz.ntmps84
 go_wp2_with fail
 rw [← HXD.out]
 have hR0:=Blk.new w [.string .empty,.int .i64 0,.int .u32 0,.int .i64 0,.int .i64 0,.int .i64 0,.int .i64 0,.int .u32 0,.int .i64 0] 52
 have hU0:=(Upd.refl [] w).alloc (.cells #[.string .empty,.int .i64 0,.int .u32 0,.int .i64 0,.int .i64 0,.int .i64 0,.int .i64 0,.int .u32 0,.int .i64 0] 52)
 refine (HAlo.out _).mono ?_
 rintro e w1 ⟨rfl,hu1⟩
 have hR1:=hR0.upd hu1 (by simp)
 have hU1:=hU0.then hu1
 clear hR0 hU0 hu1
 have HR0:=Lib.hid (Nat.le_refl w.heap.size)
 generalize hr0:w.heap.size=r0 at *
 have HG:Hid (w.heap.size≤r0):=Lib.hid (by omega)
 clear HR0 hr0
 go_wp2_with fail
 refine (HAex.out _).mono ?_
 rintro e w2 ⟨rfl,hu2⟩
 have hR2:=hR1.upd hu2 (by simp)
 have hU2:=hU1.then hu2
 clear hR1 hU1 hu2
 go_wp2_with fail
 refine (HAre.out _).mono ?_
 rintro e w3 ⟨rfl,hu3⟩
 have hR3:=hR2.upd hu3 (by simp)
 have hU3:=hU2.then hu3
 clear hR2 hU2 hu3
 go_wp2_with fail
 refine (HAfl.out _).mono ?_
 rintro e w4 ⟨rfl,hu4⟩
 have hR4:=hR3.upd hu4 (by simp)
 have hU4:=hU3.then hu4
 clear hR3 hU3 hu4
 have HR4:=Lib.hid hR4
 have HU4:=Lib.hid hU4
 clear hR4 hU4
 go_wp2_with fail
 refine (HPT.out _).mono ?_
 rintro e w5 ⟨rfl,hu5⟩
 have hR5:=HR4.out.upd hu5 (by simp)
 have hU5:=HU4.out.then hu5
 clear HR4 HU4 hu5 t34 t35 tm
 go_wp2_with fail
 refine (HAhi.out _).mono ?_
 rintro e w6 ⟨rfl,hu6⟩
 have hR6:=hR5.upd hu6 (by simp)
 have hU6:=hU5.then hu6
 clear hR5 hU5 hu6
 by_cases hk:hi/4096=4
 rotate_left
 · rw [if_pos (by omega)] at HX
   have tk:((hi:Int)/4096 != 4)=true:=by rw [bne_iff_ne]; omega
   have cA:=hR6.all
   have fA:=hR6.frz
   have HR:=Lib.hid hR6
   have HU:=Lib.hid hU6
   clear hR6 hU6
   go_wp2_with fail
   (try simp only [Exit.inBlock,Exit.then]); refine bodyPost_ret (zk rfl _ _ r0 _ _ _ _ _ _ _ _ _ rfl (Blk.set9 HR.out _ _ _ _ _ _ _ _ _)) rfl ⟨?_,Upd.set9 HU.out (.inr HG.out) _ _ _ _ _ _ _ _ _⟩
   rw [HV.out,HX.out]; rfl
 · rw [if_neg (by omega)] at HX
   have tk:((hi:Int)/4096 != 4)=false:=by rw [bne_eq_false_iff_eq]; omega
   go_wp2_with fail
   refine (HAme.out _).mono ?_
   rintro e w7 ⟨rfl,hu7⟩
   have hR7:=hR6.upd hu7 (by simp)
   have hU7:=hU6.then hu7
   clear hR6 hU6 hu7
   go_wp2_with fail
   refine (HAti.out _).mono ?_
   rintro e w8 ⟨rfl,hu8⟩
   have hR8:=hR7.upd hu8 (by simp)
   have hU8:=hU7.then hu8
   clear hR7 hU7 hu8
   go_wp2_with fail
   refine (HAsu.out _).mono ?_
   rintro e w9 ⟨rfl,hu9⟩
   have hR9:=hR8.upd hu9 (by simp)
   have hU9:=hU8.then hu9
   clear hR8 hU8 hu9
   go_wp2_with fail
   refine (HAla.out _).mono ?_
   rintro e w10 ⟨rfl,hu10⟩
   have hR10:=hR9.upd hu10 (by simp)
   have hU10:=hU9.then hu10
   clear hR9 hU9 hu10
   go_wp2_with fail
   refine (HAwh.out _).mono ?_
   rintro e w11 ⟨rfl,hu11⟩
   have hR11:=hR10.upd hu11 (by simp)
   have hU11:=hU10.then hu11
   clear hR10 hU10 hu11
   go_wp2_with fail
   refine (HAps.out _).mono ?_
   rintro e w12 ⟨rfl,hu12⟩
   have hR12:=hR11.upd hu12 (by simp)
   have hU12:=hU11.then hu12
   clear hR11 hU11 hu12
   have hR13:=hR12.alloc (.cells #[.string (zf pa),.int .i64 (me:Nat),.int .u32 (su:Nat),.int .i64 (la:Nat),.int .i64 (wh:Nat),.int .i64 2,.int .i64 ((hi:Int)%512),.int .u32 (ti:Nat),.int .i64 (ps:Nat)] 52)
   have hU13:=hU12.alloc (.cells #[.string (zf pa),.int .i64 (me:Nat),.int .u32 (su:Nat),.int .i64 (la:Nat),.int .i64 (wh:Nat),.int .i64 2,.int .i64 ((hi:Int)%512),.int .u32 (ti:Nat),.int .i64 (ps:Nat)] 52)
   have hQ13:=Blk.new w12 [.string (zf pa),.int .i64 (me:Nat),.int .u32 (su:Nat),.int .i64 (la:Nat),.int .i64 (wh:Nat),.int .i64 2,.int .i64 ((hi:Int)%512),.int .u32 (ti:Nat),.int .i64 (ps:Nat)] 52
   have hnr:r0<w12.heap.size:=hR12.lt
   have HR:=Lib.hid hR13
   have HU:=Lib.hid hU13
   have HQ:=Lib.hid hQ13
   clear hR12 hU12 hR13 hU13 hQ13
   go_wp2_with fail
   generalize w12.heap.size=q0 at *
   refine (HRT.out _).mono ?_
   rintro e v ⟨rfl,huv⟩
   have hR20:=HR.out.upd huv (by simp)
   have hU20:=HU.out.then huv
   have hQ20:=HQ.out.upd huv (by simp)
   clear HR HU HQ huv
   by_cases he:er=0
   rotate_left
   · rw [if_pos he] at HX
     have te:((er:Int) != 0)=true:=by rw [bne_iff_ne]; omega
     clear hQ20
     have cA:=hR20.all
     have fA:=hR20.frz
     have HR:=Lib.hid hR20
     have HU:=Lib.hid hU20
     clear hR20 hU20
     go_wp2_with fail
     (try simp only [Exit.inBlock,Exit.then]); refine bodyPost_ret (zk rfl _ _ r0 _ _ _ _ _ _ _ _ _ rfl (Blk.set9 HR.out _ _ _ _ _ _ _ _ _)) rfl ⟨?_,Upd.set9 HU.out (.inr HG.out) _ _ _ _ _ _ _ _ _⟩
     rw [HV.out,HX.out]; rfl
   · rw [if_neg (by omega)] at HX
     subst he
     have gA:=hQ20.all
     clear hQ20
     have cA:=hR20.all
     have fA:=hR20.frz
     have HR:=Lib.hid hR20
     have HU:=Lib.hid hU20
     clear hR20 hU20
     go_wp2_with fail
     (try simp only [Exit.inBlock,Exit.then]); refine bodyPost_ret (zk rfl _ _ r0 _ _ _ _ _ _ _ _ _ rfl (Blk.set9 HR.out _ _ _ _ _ _ _ _ _)) rfl ⟨?_,Upd.set9 HU.out (.inr HG.out) _ _ _ _ _ _ _ _ _⟩
     rw [HV.out,HX.out]; simp [qf,RecD.v]
end Go.Proofs.YtigjingielnaoaaGreatDoor
namespace Go.Proofs.YtigjingielnaoaaGreatDoor
open Go.RowKit
set_option maxRecDepth 100000 in
set_option maxHeartbeats 12800000 in
theorem ZQ (s x:ByteArray) (i:Nat) (w:World) (hs:s.size≤1000000) (hi:i≤s.size) (hx:x=s.extract i s.size) (g46:46≤x.size) (hl1:46+gN x 28 2+gN x 30 2+gN x 32 2≤x.size) (gbe:gN x 0 4=33639248) (gfl:gN x 8 2=2056) (g34:x[34].toNat=0) (g35:x[35].toNat=0) (pa:List Nat) (hpp:zv (((ze x).drop 46).take (gN x 28 2))=(pa,1,true)) :
 Calls Tryz.prog 84 #[.string s,.int .i64 (i:Nat)] w fun e w'=>e = .returned (qf (zt s i))∧Upd [] w w':=by
 have hi0:(0:Int)≤(i:Int):=by omega
 have hi1:(i:Int)≤(s.size:Int):=by omega
 have hxs:x.size=s.size-i:=by rw [hx,ByteArray.size_extract]; omega
 have HV:Hid (zt s i=yf x):=Lib.hid (by unfold zt; rw [if_neg (by omega),hx]; rfl)
 have hz : ¬ (s.size:Int)-(i:Int)<46:=by omega
 have hx0:(46:Int)≤(x.size:Int):=by omega
 have hxm:x.size≤1000000:=by omega
 have HAlo:=Lib.hid (fun w=>zo x 28 2 w (by omega) (by omega) (by omega))
 have Blo:=zC x 28 2
 have HAex:=Lib.hid (fun w=>zo x 30 2 w (by omega) (by omega) (by omega))
 have Bex:=zC x 30 2
 have HAre:=Lib.hid (fun w=>zo x 32 2 w (by omega) (by omega) (by omega))
 have Bre:=zC x 32 2
 have HAfl:=Lib.hid (fun w=>zo x 8 2 w (by omega) (by omega) (by omega))
 have Bfl:=zC x 8 2
 have HAhi:=Lib.hid (fun w=>zo x 40 2 w (by omega) (by omega) (by omega))
 have Bhi:=zC x 40 2
 have HAme:=Lib.hid (fun w=>zo x 10 2 w (by omega) (by omega) (by omega))
 have Bme:=zC x 10 2
 have HAti:=Lib.hid (fun w=>zo x 12 4 w (by omega) (by omega) (by omega))
 have Bti:=zC x 12 4
 have HAsu:=Lib.hid (fun w=>zo x 16 4 w (by omega) (by omega) (by omega))
 have Bsu:=zC x 16 4
 have HAla:=Lib.hid (fun w=>zo x 20 4 w (by omega) (by omega) (by omega))
 have Bla:=zC x 20 4
 have HAwh:=Lib.hid (fun w=>zo x 24 4 w (by omega) (by omega) (by omega))
 have Bwh:=zC x 24 4
 have HAps:=Lib.hid (fun w=>zo x 42 4 w (by omega) (by omega) (by omega))
 have Bps:=zC x 42 4
 have HM:=Lib.hid (vq x (by omega) [80,75,1,2] 33639248 rfl (by decide))
 have HX:=Lib.hid (jv x g46 hl1 ⟨gbe,by omega,g34,g35⟩ pa 1 hpp)
 have hps:pa.length≤200:=by have:=xz (l:=((ze x).drop 46).take (gN x 28 2)) (by rw [hpp]); rw [hpp] at this; exact this
 have hfits:=kT x pa 1 hps
 have HRT:=Lib.hid (fun w=>xF _ w hfits)
 have HPT:=Lib.hid (fun w=>qm (x.extract 46 (46+gN x 28 2)) w (by rw [ByteArray.size_extract]; omega))
 have hbx:ze (x.extract 46 (46+gN x 28 2))=((ze x).drop 46).take (gN x 28 2):=by rw [zr,Nat.add_sub_cancel_left]
 rw [hbx,hpp] at HPT
 clear hbx hpp hfits
 unfold jq at HPT
 dsimp only at HPT
 obtain ⟨er,her⟩ : ∃ er,zM (vr x pa 1)=er:=⟨_,rfl⟩
 rw [her] at HRT HX
 have HER:=Lib.hid her
 clear her
 unfold RecD.v at HRT
 unfold vr at HRT HX
 dsimp only at HRT
 have t34:((x[34].toNat:Int) != 0)=false:=by rw [bne_eq_false_iff_eq]; omega
 have t35:((x[35].toNat:Int) != 0)=false:=by rw [bne_eq_false_iff_eq]; omega
 generalize gN x 0 4=be at *
 generalize gN x 28 2=lo at *
 generalize gN x 30 2=ex at *
 generalize gN x 32 2=re at *
 generalize gN x 8 2=fl at *
 generalize gN x 40 2=hi at *
 generalize gN x 10 2=me at *
 generalize gN x 12 4=ti at *
 generalize gN x 16 4=su at *
 generalize gN x 20 4=la at *
 generalize gN x 24 4=wh at *
 generalize gN x 42 4=ps at *
 simp only [Nat.reducePow] at Blo Bex Bre Bfl Bhi Bme Bti Bsu Bla Bwh Bps
 have HXD:=Lib.hid hx
 clear hx
 subst gbe gfl
 have tm:((x.extract 0 4).toList==[80,75,1,2])=true:=by rw [HM.out]; rfl
 have HCK:Hid (qY 1=32768):=Lib.hid rfl
 rw [HCK.out] at HX
 have tf1:(((2056:Nat):Int) != 2048)=true:=by rw [bne_iff_ne]; omega
 have tf2:(((2056:Nat):Int) != 2056)=false:=by rw [bne_eq_false_iff_eq]; omega
 go_enter Tryz.func84,Tryz.ntmps84
 go_wp2_with fail
 rw [← HXD.out]
 have hR0:=Blk.new w [.string .empty,.int .i64 0,.int .u32 0,.int .i64 0,.int .i64 0,.int .i64 0,.int .i64 0,.int .u32 0,.int .i64 0] 52
 have hU0:=(Upd.refl [] w).alloc (.cells #[.string .empty,.int .i64 0,.int .u32 0,.int .i64 0,.int .i64 0,.int .i64 0,.int .i64 0,.int .u32 0,.int .i64 0] 52)
 refine (HAlo.out _).mono ?_
 rintro e w1 ⟨rfl,hu1⟩
 have hR1:=hR0.upd hu1 (by simp)
 have hU1:=hU0.then hu1
 clear hR0 hU0 hu1
 have HR0:=Lib.hid (Nat.le_refl w.heap.size)
 generalize hr0:w.heap.size=r0 at *
 have HG:Hid (w.heap.size≤r0):=Lib.hid (by omega)
 clear HR0 hr0
 go_wp2_with fail
 refine (HAex.out _).mono ?_
 rintro e w2 ⟨rfl,hu2⟩
 have hR2:=hR1.upd hu2 (by simp)
 have hU2:=hU1.then hu2
 clear hR1 hU1 hu2
 go_wp2_with fail
 refine (HAre.out _).mono ?_
 rintro e w3 ⟨rfl,hu3⟩
 have hR3:=hR2.upd hu3 (by simp)
 have hU3:=hU2.then hu3
 clear hR2 hU2 hu3
 go_wp2_with fail
 refine (HAfl.out _).mono ?_
 rintro e w4 ⟨rfl,hu4⟩
 have hR4:=hR3.upd hu4 (by simp)
 have hU4:=hU3.then hu4
 clear hR3 hU3 hu4
 have HR4:=Lib.hid hR4
 have HU4:=Lib.hid hU4
 clear hR4 hU4
 go_wp2_with fail
 refine (HPT.out _).mono ?_
 rintro e w5 ⟨rfl,hu5⟩
 have hR5:=HR4.out.upd hu5 (by simp)
 have hU5:=HU4.out.then hu5
 clear HR4 HU4 hu5 t34 t35 tm
 go_wp2_with fail
 refine (HAhi.out _).mono ?_
 rintro e w6 ⟨rfl,hu6⟩
 have hR6:=hR5.upd hu6 (by simp)
 have hU6:=hU5.then hu6
 clear hR5 hU5 hu6
 by_cases hk:hi/4096=8
 rotate_left
 · rw [if_pos (by omega)] at HX
   have tk:((hi:Int)/4096 != 8)=true:=by rw [bne_iff_ne]; omega
   have cA:=hR6.all
   have fA:=hR6.frz
   have HR:=Lib.hid hR6
   have HU:=Lib.hid hU6
   clear hR6 hU6
   go_wp2_with fail
   (try simp only [Exit.inBlock,Exit.then]); refine bodyPost_ret (zk rfl _ _ r0 _ _ _ _ _ _ _ _ _ rfl (Blk.set9 HR.out _ _ _ _ _ _ _ _ _)) rfl ⟨?_,Upd.set9 HU.out (.inr HG.out) _ _ _ _ _ _ _ _ _⟩
   rw [HV.out,HX.out]; rfl
 · rw [if_neg (by omega)] at HX
   have tk:((hi:Int)/4096 != 8)=false:=by rw [bne_eq_false_iff_eq]; omega
   go_wp2_with fail
   refine (HAme.out _).mono ?_
   rintro e w7 ⟨rfl,hu7⟩
   have hR7:=hR6.upd hu7 (by simp)
   have hU7:=hU6.then hu7
   clear hR6 hU6 hu7
   go_wp2_with fail
   refine (HAti.out _).mono ?_
   rintro e w8 ⟨rfl,hu8⟩
   have hR8:=hR7.upd hu8 (by simp)
   have hU8:=hU7.then hu8
   clear hR7 hU7 hu8
   go_wp2_with fail
   refine (HAsu.out _).mono ?_
   rintro e w9 ⟨rfl,hu9⟩
   have hR9:=hR8.upd hu9 (by simp)
   have hU9:=hU8.then hu9
   clear hR8 hU8 hu9
   go_wp2_with fail
   refine (HAla.out _).mono ?_
   rintro e w10 ⟨rfl,hu10⟩
   have hR10:=hR9.upd hu10 (by simp)
   have hU10:=hU9.then hu10
   clear hR9 hU9 hu10
   go_wp2_with fail
   refine (HAwh.out _).mono ?_
   rintro e w11 ⟨rfl,hu11⟩
   have hR11:=hR10.upd hu11 (by simp)
   have hU11:=hU10.then hu11
   clear hR10 hU10 hu11
   go_wp2_with fail
   refine (HAps.out _).mono ?_
   rintro e w12 ⟨rfl,hu12⟩
   have hR12:=hR11.upd hu12 (by simp)
   have hU12:=hU11.then hu12
   clear hR11 hU11 hu12
   have hR13:=hR12.alloc (.cells #[.string (zf pa),.int .i64 (me:Nat),.int .u32 (su:Nat),.int .i64 (la:Nat),.int .i64 (wh:Nat),.int .i64 1,.int .i64 ((hi:Int)%512),.int .u32 (ti:Nat),.int .i64 (ps:Nat)] 52)
   have hU13:=hU12.alloc (.cells #[.string (zf pa),.int .i64 (me:Nat),.int .u32 (su:Nat),.int .i64 (la:Nat),.int .i64 (wh:Nat),.int .i64 1,.int .i64 ((hi:Int)%512),.int .u32 (ti:Nat),.int .i64 (ps:Nat)] 52)
   have hQ13:=Blk.new w12 [.string (zf pa),.int .i64 (me:Nat),.int .u32 (su:Nat),.int .i64 (la:Nat),.int .i64 (wh:Nat),.int .i64 1,.int .i64 ((hi:Int)%512),.int .u32 (ti:Nat),.int .i64 (ps:Nat)] 52
   have hnr:r0<w12.heap.size:=hR12.lt
   have HR:=Lib.hid hR13
   have HU:=Lib.hid hU13
   have HQ:=Lib.hid hQ13
   clear hR12 hU12 hR13 hU13 hQ13
   go_wp2_with fail
   generalize w12.heap.size=q0 at *
   refine (HRT.out _).mono ?_
   rintro e v ⟨rfl,huv⟩
   have hR20:=HR.out.upd huv (by simp)
   have hU20:=HU.out.then huv
   have hQ20:=HQ.out.upd huv (by simp)
   clear HR HU HQ huv
   by_cases he:er=0
   rotate_left
   · rw [if_pos he] at HX
     have te:((er:Int) != 0)=true:=by rw [bne_iff_ne]; omega
     clear hQ20
     have cA:=hR20.all
     have fA:=hR20.frz
     have HR:=Lib.hid hR20
     have HU:=Lib.hid hU20
     clear hR20 hU20
     go_wp2_with fail
     (try simp only [Exit.inBlock,Exit.then]); refine bodyPost_ret (zk rfl _ _ r0 _ _ _ _ _ _ _ _ _ rfl (Blk.set9 HR.out _ _ _ _ _ _ _ _ _)) rfl ⟨?_,Upd.set9 HU.out (.inr HG.out) _ _ _ _ _ _ _ _ _⟩
     rw [HV.out,HX.out]; rfl
   · rw [if_neg (by omega)] at HX
     subst he
     have gA:=hQ20.all
     clear hQ20
     have cA:=hR20.all
     have fA:=hR20.frz
     have HR:=Lib.hid hR20
     have HU:=Lib.hid hU20
     clear hR20 hU20
     go_wp2_with fail
     (try simp only [Exit.inBlock,Exit.then]); refine bodyPost_ret (zk rfl _ _ r0 _ _ _ _ _ _ _ _ _ rfl (Blk.set9 HR.out _ _ _ _ _ _ _ _ _)) rfl ⟨?_,Upd.set9 HU.out (.inr HG.out) _ _ _ _ _ _ _ _ _⟩
     rw [HV.out,HX.out]; simp [qf,RecD.v]
end Go.Proofs.YtigjingielnaoaaGreatDoor
namespace Go.Proofs.YtigjingielnaoaaGreatDoor
open Go.RowKit
set_option maxRecDepth 100000 in
set_option maxHeartbeats 12800000 in
theorem ZG (s x:ByteArray) (i:Nat) (w:World) (hs:s.size≤1000000) (hi:i≤s.size) (hx:x=s.extract i s.size) (g46:46≤x.size) (hl1:46+gN x 28 2+gN x 30 2+gN x 32 2≤x.size) (gbe:gN x 0 4=33639248) (gfl:gN x 8 2=2056) (g34:x[34].toNat=0) (g35:x[35].toNat=0) (pa:List Nat) (hpp:zv (((ze x).drop 46).take (gN x 28 2))=(pa,2,true)) :
 Calls Tryz.prog 84 #[.string s,.int .i64 (i:Nat)] w fun e w'=>e = .returned (qf (zt s i))∧Upd [] w w':=by
 have hi0:(0:Int)≤(i:Int):=by omega
 have hi1:(i:Int)≤(s.size:Int):=by omega
 have hxs:x.size=s.size-i:=by rw [hx,ByteArray.size_extract]; omega
 have HV:Hid (zt s i=yf x):=Lib.hid (by unfold zt; rw [if_neg (by omega),hx]; rfl)
 have hz : ¬ (s.size:Int)-(i:Int)<46:=by omega
 have hx0:(46:Int)≤(x.size:Int):=by omega
 have hxm:x.size≤1000000:=by omega
 have HAlo:=Lib.hid (fun w=>zo x 28 2 w (by omega) (by omega) (by omega))
 have Blo:=zC x 28 2
 have HAex:=Lib.hid (fun w=>zo x 30 2 w (by omega) (by omega) (by omega))
 have Bex:=zC x 30 2
 have HAre:=Lib.hid (fun w=>zo x 32 2 w (by omega) (by omega) (by omega))
 have Bre:=zC x 32 2
 have HAfl:=Lib.hid (fun w=>zo x 8 2 w (by omega) (by omega) (by omega))
 have Bfl:=zC x 8 2
 have HAhi:=Lib.hid (fun w=>zo x 40 2 w (by omega) (by omega) (by omega))
 have Bhi:=zC x 40 2
 have HAme:=Lib.hid (fun w=>zo x 10 2 w (by omega) (by omega) (by omega))
 have Bme:=zC x 10 2
 have HAti:=Lib.hid (fun w=>zo x 12 4 w (by omega) (by omega) (by omega))
 have Bti:=zC x 12 4
 have HAsu:=Lib.hid (fun w=>zo x 16 4 w (by omega) (by omega) (by omega))
 have Bsu:=zC x 16 4
 have HAla:=Lib.hid (fun w=>zo x 20 4 w (by omega) (by omega) (by omega))
 have Bla:=zC x 20 4
 have HAwh:=Lib.hid (fun w=>zo x 24 4 w (by omega) (by omega) (by omega))
 have Bwh:=zC x 24 4
 have HAps:=Lib.hid (fun w=>zo x 42 4 w (by omega) (by omega) (by omega))
 have Bps:=zC x 42 4
 have HM:=Lib.hid (vq x (by omega) [80,75,1,2] 33639248 rfl (by decide))
 have HX:=Lib.hid (jv x g46 hl1 ⟨gbe,by omega,g34,g35⟩ pa 2 hpp)
 have hps:pa.length≤200:=by have:=xz (l:=((ze x).drop 46).take (gN x 28 2)) (by rw [hpp]); rw [hpp] at this; exact this
 have hfits:=kT x pa 2 hps
 have HRT:=Lib.hid (fun w=>xF _ w hfits)
 have HPT:=Lib.hid (fun w=>qm (x.extract 46 (46+gN x 28 2)) w (by rw [ByteArray.size_extract]; omega))
 have hbx:ze (x.extract 46 (46+gN x 28 2))=((ze x).drop 46).take (gN x 28 2):=by rw [zr,Nat.add_sub_cancel_left]
 rw [hbx,hpp] at HPT
 clear hbx hpp hfits
 unfold jq at HPT
 dsimp only at HPT
 obtain ⟨er,her⟩ : ∃ er,zM (vr x pa 2)=er:=⟨_,rfl⟩
 rw [her] at HRT HX
 have HER:=Lib.hid her
 clear her
 unfold RecD.v at HRT
 unfold vr at HRT HX
 dsimp only at HRT
 have t34:((x[34].toNat:Int) != 0)=false:=by rw [bne_eq_false_iff_eq]; omega
 have t35:((x[35].toNat:Int) != 0)=false:=by rw [bne_eq_false_iff_eq]; omega
 generalize gN x 0 4=be at *
 generalize gN x 28 2=lo at *
 generalize gN x 30 2=ex at *
 generalize gN x 32 2=re at *
 generalize gN x 8 2=fl at *
 generalize gN x 40 2=hi at *
 generalize gN x 10 2=me at *
 generalize gN x 12 4=ti at *
 generalize gN x 16 4=su at *
 generalize gN x 20 4=la at *
 generalize gN x 24 4=wh at *
 generalize gN x 42 4=ps at *
 simp only [Nat.reducePow] at Blo Bex Bre Bfl Bhi Bme Bti Bsu Bla Bwh Bps
 have HXD:=Lib.hid hx
 clear hx
 subst gbe gfl
 have tm:((x.extract 0 4).toList==[80,75,1,2])=true:=by rw [HM.out]; rfl
 have HCK:Hid (qY 2=16384):=Lib.hid rfl
 rw [HCK.out] at HX
 have tf1:(((2056:Nat):Int) != 2048)=true:=by rw [bne_iff_ne]; omega
 have tf2:(((2056:Nat):Int) != 2056)=false:=by rw [bne_eq_false_iff_eq]; omega
 go_enter Tryz.func84,Tryz.ntmps84
 go_wp2_with fail
 rw [← HXD.out]
 have hR0:=Blk.new w [.string .empty,.int .i64 0,.int .u32 0,.int .i64 0,.int .i64 0,.int .i64 0,.int .i64 0,.int .u32 0,.int .i64 0] 52
 have hU0:=(Upd.refl [] w).alloc (.cells #[.string .empty,.int .i64 0,.int .u32 0,.int .i64 0,.int .i64 0,.int .i64 0,.int .i64 0,.int .u32 0,.int .i64 0] 52)
 refine (HAlo.out _).mono ?_
 rintro e w1 ⟨rfl,hu1⟩
 have hR1:=hR0.upd hu1 (by simp)
 have hU1:=hU0.then hu1
 clear hR0 hU0 hu1
 have HR0:=Lib.hid (Nat.le_refl w.heap.size)
 generalize hr0:w.heap.size=r0 at *
 have HG:Hid (w.heap.size≤r0):=Lib.hid (by omega)
 clear HR0 hr0
 go_wp2_with fail
 refine (HAex.out _).mono ?_
 rintro e w2 ⟨rfl,hu2⟩
 have hR2:=hR1.upd hu2 (by simp)
 have hU2:=hU1.then hu2
 clear hR1 hU1 hu2
 go_wp2_with fail
 refine (HAre.out _).mono ?_
 rintro e w3 ⟨rfl,hu3⟩
 have hR3:=hR2.upd hu3 (by simp)
 have hU3:=hU2.then hu3
 clear hR2 hU2 hu3
 go_wp2_with fail
 refine (HAfl.out _).mono ?_
 rintro e w4 ⟨rfl,hu4⟩
 have hR4:=hR3.upd hu4 (by simp)
 have hU4:=hU3.then hu4
 clear hR3 hU3 hu4
 have HR4:=Lib.hid hR4
 have HU4:=Lib.hid hU4
 clear hR4 hU4
 go_wp2_with fail
 refine (HPT.out _).mono ?_
 rintro e w5 ⟨rfl,hu5⟩
 have hR5:=HR4.out.upd hu5 (by simp)
 have hU5:=HU4.out.then hu5
 clear HR4 HU4 hu5 t34 t35 tm
 go_wp2_with fail
 refine (HAhi.out _).mono ?_
 rintro e w6 ⟨rfl,hu6⟩
 have hR6:=hR5.upd hu6 (by simp)
 have hU6:=hU5.then hu6
 clear hR5 hU5 hu6
 by_cases hk:hi/4096=4
 rotate_left
 · rw [if_pos (by omega)] at HX
   have tk:((hi:Int)/4096 != 4)=true:=by rw [bne_iff_ne]; omega
   have cA:=hR6.all
   have fA:=hR6.frz
   have HR:=Lib.hid hR6
   have HU:=Lib.hid hU6
   clear hR6 hU6
   go_wp2_with fail
   (try simp only [Exit.inBlock,Exit.then]); refine bodyPost_ret (zk rfl _ _ r0 _ _ _ _ _ _ _ _ _ rfl (Blk.set9 HR.out _ _ _ _ _ _ _ _ _)) rfl ⟨?_,Upd.set9 HU.out (.inr HG.out) _ _ _ _ _ _ _ _ _⟩
   rw [HV.out,HX.out]; rfl
 · rw [if_neg (by omega)] at HX
   have tk:((hi:Int)/4096 != 4)=false:=by rw [bne_eq_false_iff_eq]; omega
   go_wp2_with fail
   refine (HAme.out _).mono ?_
   rintro e w7 ⟨rfl,hu7⟩
   have hR7:=hR6.upd hu7 (by simp)
   have hU7:=hU6.then hu7
   clear hR6 hU6 hu7
   go_wp2_with fail
   refine (HAti.out _).mono ?_
   rintro e w8 ⟨rfl,hu8⟩
   have hR8:=hR7.upd hu8 (by simp)
   have hU8:=hU7.then hu8
   clear hR7 hU7 hu8
   go_wp2_with fail
   refine (HAsu.out _).mono ?_
   rintro e w9 ⟨rfl,hu9⟩
   have hR9:=hR8.upd hu9 (by simp)
   have hU9:=hU8.then hu9
   clear hR8 hU8 hu9
   go_wp2_with fail
   refine (HAla.out _).mono ?_
   rintro e w10 ⟨rfl,hu10⟩
   have hR10:=hR9.upd hu10 (by simp)
   have hU10:=hU9.then hu10
   clear hR9 hU9 hu10
   go_wp2_with fail
   refine (HAwh.out _).mono ?_
   rintro e w11 ⟨rfl,hu11⟩
   have hR11:=hR10.upd hu11 (by simp)
   have hU11:=hU10.then hu11
   clear hR10 hU10 hu11
   go_wp2_with fail
   refine (HAps.out _).mono ?_
   rintro e w12 ⟨rfl,hu12⟩
   have hR12:=hR11.upd hu12 (by simp)
   have hU12:=hU11.then hu12
   clear hR11 hU11 hu12
   have hR13:=hR12.alloc (.cells #[.string (zf pa),.int .i64 (me:Nat),.int .u32 (su:Nat),.int .i64 (la:Nat),.int .i64 (wh:Nat),.int .i64 2,.int .i64 ((hi:Int)%512),.int .u32 (ti:Nat),.int .i64 (ps:Nat)] 52)
   have hU13:=hU12.alloc (.cells #[.string (zf pa),.int .i64 (me:Nat),.int .u32 (su:Nat),.int .i64 (la:Nat),.int .i64 (wh:Nat),.int .i64 2,.int .i64 ((hi:Int)%512),.int .u32 (ti:Nat),.int .i64 (ps:Nat)] 52)
   have hQ13:=Blk.new w12 [.string (zf pa),.int .i64 (me:Nat),.int .u32 (su:Nat),.int .i64 (la:Nat),.int .i64 (wh:Nat),.int .i64 2,.int .i64 ((hi:Int)%512),.int .u32 (ti:Nat),.int .i64 (ps:Nat)] 52
   have hnr:r0<w12.heap.size:=hR12.lt
   have HR:=Lib.hid hR13
   have HU:=Lib.hid hU13
   have HQ:=Lib.hid hQ13
   clear hR12 hU12 hR13 hU13 hQ13
   go_wp2_with fail
   generalize w12.heap.size=q0 at *
   refine (HRT.out _).mono ?_
   rintro e v ⟨rfl,huv⟩
   have hR20:=HR.out.upd huv (by simp)
   have hU20:=HU.out.then huv
   have hQ20:=HQ.out.upd huv (by simp)
   clear HR HU HQ huv
   by_cases he:er=0
   rotate_left
   · rw [if_pos he] at HX
     have te:((er:Int) != 0)=true:=by rw [bne_iff_ne]; omega
     clear hQ20
     have cA:=hR20.all
     have fA:=hR20.frz
     have HR:=Lib.hid hR20
     have HU:=Lib.hid hU20
     clear hR20 hU20
     go_wp2_with fail
     (try simp only [Exit.inBlock,Exit.then]); refine bodyPost_ret (zk rfl _ _ r0 _ _ _ _ _ _ _ _ _ rfl (Blk.set9 HR.out _ _ _ _ _ _ _ _ _)) rfl ⟨?_,Upd.set9 HU.out (.inr HG.out) _ _ _ _ _ _ _ _ _⟩
     rw [HV.out,HX.out]; rfl
   · rw [if_neg (by omega)] at HX
     subst he
     have gA:=hQ20.all
     clear hQ20
     have cA:=hR20.all
     have fA:=hR20.frz
     have HR:=Lib.hid hR20
     have HU:=Lib.hid hU20
     clear hR20 hU20
     go_wp2_with fail
     (try simp only [Exit.inBlock,Exit.then]); refine bodyPost_ret (zk rfl _ _ r0 _ _ _ _ _ _ _ _ _ rfl (Blk.set9 HR.out _ _ _ _ _ _ _ _ _)) rfl ⟨?_,Upd.set9 HU.out (.inr HG.out) _ _ _ _ _ _ _ _ _⟩
     rw [HV.out,HX.out]; simp [qf,RecD.v]
end Go.Proofs.YtigjingielnaoaaGreatDoor
