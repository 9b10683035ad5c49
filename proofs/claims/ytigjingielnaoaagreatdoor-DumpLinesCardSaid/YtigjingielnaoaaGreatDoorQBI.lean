/- Package swingleref20: Read: its walk. -/
import Derived.Test.YtigjingielnaoaaGreatDoorQBG
import Derived.Test.YtigjingielnaoaaGreatDoorQBH
import Derived.Test.YtigjingielnaoaaGreatDoorQAE
import Derived.Test.YtigjingielnaoaaGreatDoorQAA
set_option linter.unusedVariables false
set_option linter.unusedSimpArgs false
set_option linter.unusedSectionVars false
namespace Go.Proofs.YtigjingielnaoaaGreatDoor
open Go.RowKit
set_option maxRecDepth 100000 in
set_option maxHeartbeats 12800000 in
theorem YC (s:ByteArray) (a:Int) (w:World) (hs:s.size≤1000000):Calls Tryz.prog 84 #[.string s,.int .i64 a] w fun e w'=>e = .returned (qf (zt s a))∧Upd [] w w':=by
 by_cases ha:a<0∨(s.size:Int)<a
 · have HV:Hid (zt s a=(zT,0,3)):=Lib.hid (if_pos ha)
   rcases ha with ha | ha
   · go_enter Tryz.func84,Tryz.ntmps84
     go_wp2
     (try simp only [Exit.inBlock,Exit.then]); refine bodyPost_ret (zk rfl _ _ w.heap.size _ _ _ _ _ _ _ _ _ rfl (Blk.new w [.string .empty,.int .i64 0,.int .u32 0,.int .i64 0,.int .i64 0,.int .i64 0,.int .i64 0,.int .u32 0,.int .i64 0] 52)) rfl ⟨?_,(Upd.refl [] w).alloc _⟩
     rw [HV.out]; rfl
   · have ha0 : ¬ a<0:=by omega
     go_enter Tryz.func84,Tryz.ntmps84
     go_wp2
     (try simp only [Exit.inBlock,Exit.then]); refine bodyPost_ret (zk rfl _ _ w.heap.size _ _ _ _ _ _ _ _ _ rfl (Blk.new w [.string .empty,.int .i64 0,.int .u32 0,.int .i64 0,.int .i64 0,.int .i64 0,.int .i64 0,.int .u32 0,.int .i64 0] 52)) rfl ⟨?_,(Upd.refl [] w).alloc _⟩
     rw [HV.out]; rfl
 · obtain ⟨i,rfl⟩ : ∃ i:Nat,a=i:=⟨a.toNat,by omega⟩
   have hi:i≤s.size:=by omega
   obtain ⟨x,hx⟩ : ∃ x,x=s.extract i s.size:=⟨_,rfl⟩
   clear ha
   by_cases h46:x.size<46
   · have hi0:(0:Int)≤(i:Int):=by omega
     have hi1:(i:Int)≤(s.size:Int):=by omega
     have hxs:x.size=s.size-i:=by rw [hx,ByteArray.size_extract]; omega
     have HV:Hid (zt s i=(zT,0,3)):=Lib.hid (by
      rw [← vR x (.inl h46)]
      unfold zt; rw [if_neg (by omega),hx]; rfl)
     have hz:(s.size:Int)-(i:Int)<46:=by omega
     clear hx
     go_enter Tryz.func84,Tryz.ntmps84
     go_wp2
     (try simp only [Exit.inBlock,Exit.then]); refine bodyPost_ret (zk rfl _ _ w.heap.size _ _ _ _ _ _ _ _ _ rfl (Blk.new w [.string .empty,.int .i64 0,.int .u32 0,.int .i64 0,.int .i64 0,.int .i64 0,.int .i64 0,.int .u32 0,.int .i64 0] 52)) rfl ⟨?_,(Upd.refl [] w).alloc _⟩
     rw [HV.out]; rfl
   · have g46:46≤x.size:=by omega
     clear h46
     by_cases hg:46+gN x 28 2+gN x 30 2+gN x 32 2≤x.size∧gN x 0 4=33639248∧(gN x 8 2=2048∨gN x 8 2=2056)∧x[34].toNat=0∧x[35].toNat=0∧(zv (((ze x).drop 46).take (gN x 28 2))).2.2=true
     · obtain ⟨g1,g2,g3,g4,g5,g6⟩:=hg
       obtain ⟨⟨pa,kk,okb⟩,hpp⟩ : ∃ p,zv (((ze x).drop 46).take (gN x 28 2))=p:=⟨_,rfl⟩
       have hk:=XQ g6
       rw [hpp] at g6 hk
       dsimp only at g6 hk
       subst g6
       rcases hk with rfl | rfl<;>rcases g3 with g3 | g3
       · exact ZE s x i w hs hi hx g46 g1 g2 g3 g4 g5 pa hpp
       · exact ZQ s x i w hs hi hx g46 g1 g2 g3 g4 g5 pa hpp
       · exact ZC s x i w hs hi hx g46 g1 g2 g3 g4 g5 pa hpp
       · exact ZG s x i w hs hi hx g46 g1 g2 g3 g4 g5 pa hpp
     · have HGD:=Lib.hid hg
       clear hg
       have hi0:(0:Int)≤(i:Int):=by omega
       have hi1:(i:Int)≤(s.size:Int):=by omega
       have hxs:x.size=s.size-i:=by rw [hx,ByteArray.size_extract]; omega
       have HV:Hid (zt s i=yf x):=Lib.hid (by unfold zt; rw [if_neg (by omega),hx]; rfl)
       have hz : ¬ (s.size:Int)-(i:Int)<46:=by omega
       have hx0:(46:Int)≤(x.size:Int):=by omega
       have hxm:x.size≤1000000:=by omega
       have HAlo:=Lib.hid (fun w=>zo x 28 2 w (by omega) (by omega) (by omega))
       have Blo:=zC x 28 2
       have HAex:=Lib.hid (fun w=>zo x 30 2 w (by omega) (by omega) (by omega))
       have Bex:=zC x 30 2
       have HAre:=Lib.hid (fun w=>zo x 32 2 w (by omega) (by omega) (by omega))
       have Bre:=zC x 32 2
       have HAfl:=Lib.hid (fun w=>zo x 8 2 w (by omega) (by omega) (by omega))
       have Bfl:=zC x 8 2
       have HM:=Lib.hid (vq x (by omega) [80,75,1,2] 33639248 rfl (by decide))
       have HS:=Lib.hid (vR x)
       have HF:=Lib.hid (VT x g46)
       have HN:=Lib.hid (VR x g46)
       have HPT:=Lib.hid (fun w (h:46+gN x 28 2+gN x 30 2+gN x 32 2≤x.size)=>qm (x.extract 46 (46+gN x 28 2)) w (by rw [ByteArray.size_extract]; omega))
       have hbx:ze (x.extract 46 (46+gN x 28 2))=((ze x).drop 46).take (gN x 28 2):=by rw [zr,Nat.add_sub_cancel_left]
       rw [hbx] at HPT
       clear hbx
       generalize gN x 0 4=be at *
       generalize gN x 28 2=lo at *
       generalize gN x 30 2=ex at *
       generalize gN x 32 2=re at *
       generalize gN x 8 2=fl at *
       simp only [Nat.reducePow] at Blo Bex Bre Bfl
       have HXD:=Lib.hid hx
       clear hx
       go_enter Tryz.func84,Tryz.ntmps84
       go_wp2_with fail
       rw [← HXD.out]
       have hR0:=Blk.new w [.string .empty,.int .i64 0,.int .u32 0,.int .i64 0,.int .i64 0,.int .i64 0,.int .i64 0,.int .u32 0,.int .i64 0] 52
       have hU0:=(Upd.refl [] w).alloc (.cells #[.string .empty,.int .i64 0,.int .u32 0,.int .i64 0,.int .i64 0,.int .i64 0,.int .i64 0,.int .u32 0,.int .i64 0] 52)
       refine (HAlo.out _).mono ?_
       rintro e w1 ⟨rfl,hu1⟩
       have hR1:=hR0.upd hu1 (by simp)
       have hU1:=hU0.then hu1
       clear hR0 hU0 hu1
       have HR0:=Lib.hid (Nat.le_refl w.heap.size)
       generalize hr0:w.heap.size=r0 at *
       have HG:Hid (w.heap.size≤r0):=Lib.hid (by omega)
       clear HR0 hr0
       go_wp2_with fail
       refine (HAex.out _).mono ?_
       rintro e w2 ⟨rfl,hu2⟩
       have hR2:=hR1.upd hu2 (by simp)
       have hU2:=hU1.then hu2
       clear hR1 hU1 hu2
       go_wp2_with fail
       refine (HAre.out _).mono ?_
       rintro e w3 ⟨rfl,hu3⟩
       have hR3:=hR2.upd hu3 (by simp)
       have hU3:=hU2.then hu3
       clear hR2 hU2 hu3
       by_cases hlen:x.size<46+lo+ex+re
       · have HV2:Hid (yf x=(zT,0,3)):=Lib.hid (HS.out (.inr hlen))
         have cA:=hR3.all
         have fA:=hR3.frz
         have HR:=Lib.hid hR3
         have HU:=Lib.hid hU3
         clear hR3 hU3
         go_wp2_with fail
         (try simp only [Exit.inBlock,Exit.then]); refine bodyPost_ret (zk rfl _ _ r0 _ _ _ _ _ _ _ _ _ rfl (Blk.set9 HR.out _ _ _ _ _ _ _ _ _)) rfl ⟨?_,Upd.set9 HU.out (.inr HG.out) _ _ _ _ _ _ _ _ _⟩
         rw [HV.out,HV2.out]; rfl
       · have hl1:46+lo+ex+re≤x.size:=by omega
         clear hlen
         go_wp2_with fail
         refine (HAfl.out _).mono ?_
         rintro e w4 ⟨rfl,hu4⟩
         have hR4:=hR3.upd hu4 (by simp)
         have hU4:=hU3.then hu4
         clear hR3 hU3 hu4
         by_cases hbe:be=33639248
         rotate_left
         · have tm:((x.extract 0 4).toList==[80,75,1,2])=false:=by rw [HM.out]; exact decide_eq_false hbe
           have HV2:Hid (yf x=(zT,0,2)):=Lib.hid (HF.out hl1 (by omega))
           have cA:=hR4.all
           have fA:=hR4.frz
           have HR:=Lib.hid hR4
           have HU:=Lib.hid hU4
           clear hR4 hU4
           go_wp2_with fail
           (try simp only [Exit.inBlock,Exit.then]); refine bodyPost_ret (zk rfl _ _ r0 _ _ _ _ _ _ _ _ _ rfl (Blk.set9 HR.out _ _ _ _ _ _ _ _ _)) rfl ⟨?_,Upd.set9 HU.out (.inr HG.out) _ _ _ _ _ _ _ _ _⟩
           rw [HV.out,HV2.out]; rfl
         · have tm:((x.extract 0 4).toList==[80,75,1,2])=true:=by rw [HM.out]; exact decide_eq_true hbe
           by_cases hfl:fl=2048∨fl=2056
           rotate_left
           · have tf1:((fl:Int) != 2048)=true:=by rw [bne_iff_ne]; omega
             have tf2:((fl:Int) != 2056)=true:=by rw [bne_iff_ne]; omega
             have HV2:Hid (yf x=(zT,0,2)):=Lib.hid (HF.out hl1 (by omega))
             have cA:=hR4.all
             have fA:=hR4.frz
             have HR:=Lib.hid hR4
             have HU:=Lib.hid hU4
             clear hR4 hU4
             go_wp2_with fail
             (try simp only [Exit.inBlock,Exit.then]); refine bodyPost_ret (zk rfl _ _ r0 _ _ _ _ _ _ _ _ _ rfl (Blk.set9 HR.out _ _ _ _ _ _ _ _ _)) rfl ⟨?_,Upd.set9 HU.out (.inr HG.out) _ _ _ _ _ _ _ _ _⟩
             rw [HV.out,HV2.out]; rfl
           · rcases hfl with hfl | hfl
             · subst hfl
               have tf1:(((2048:Nat):Int) != 2048)=false:=by rw [bne_eq_false_iff_eq]; omega
               by_cases h34:x[34].toNat=0
               rotate_left
               · have HV2:Hid (yf x=(zT,0,2)):=Lib.hid (HF.out hl1 (by omega))
                 have t34:((x[34].toNat:Int) != 0)=true:=by rw [bne_iff_ne]; omega
                 have cA:=hR4.all
                 have fA:=hR4.frz
                 have HR:=Lib.hid hR4
                 have HU:=Lib.hid hU4
                 clear hR4 hU4
                 go_wp2_with fail
                 (try simp only [Exit.inBlock,Exit.then]); refine bodyPost_ret (zk rfl _ _ r0 _ _ _ _ _ _ _ _ _ rfl (Blk.set9 HR.out _ _ _ _ _ _ _ _ _)) rfl ⟨?_,Upd.set9 HU.out (.inr HG.out) _ _ _ _ _ _ _ _ _⟩
                 rw [HV.out,HV2.out]; rfl
               · have t34:((x[34].toNat:Int) != 0)=false:=by rw [bne_eq_false_iff_eq]; omega
                 by_cases h35:x[35].toNat=0
                 rotate_left
                 · have HV2:Hid (yf x=(zT,0,2)):=Lib.hid (HF.out hl1 (by omega))
                   have t35:((x[35].toNat:Int) != 0)=true:=by rw [bne_iff_ne]; omega
                   have cA:=hR4.all
                   have fA:=hR4.frz
                   have HR:=Lib.hid hR4
                   have HU:=Lib.hid hU4
                   clear hR4 hU4
                   go_wp2_with fail
                   (try simp only [Exit.inBlock,Exit.then]); refine bodyPost_ret (zk rfl _ _ r0 _ _ _ _ _ _ _ _ _ rfl (Blk.set9 HR.out _ _ _ _ _ _ _ _ _)) rfl ⟨?_,Upd.set9 HU.out (.inr HG.out) _ _ _ _ _ _ _ _ _⟩
                   rw [HV.out,HV2.out]; rfl
                 · have t35:((x[35].toNat:Int) != 0)=false:=by rw [bne_eq_false_iff_eq]; omega
                   have hpf:(zv (((ze x).drop 46).take lo)).2.2=false:=by
                    rw [← Bool.not_eq_true]; intro h; exact HGD.out ⟨hl1,hbe,by omega,h34,h35,h⟩
                   have HV2:Hid (yf x=(zT,0,5)):=Lib.hid (HN.out hl1 ⟨hbe,by omega,h34,h35⟩ hpf)
                   have HPT2:=Lib.hid (fun w=>HPT.out w hl1)
                   generalize zv (((ze x).drop 46).take lo)=pp at *
                   obtain ⟨pa,kk,okb⟩:=pp
                   dsimp only at hpf
                   subst hpf
                   unfold jq at HPT2
                   dsimp only at HPT2
                   clear h34 h35
                   go_wp2_with fail
                   refine (HPT2.out _).mono ?_
                   rintro e w5 ⟨rfl,hu5⟩
                   have hR5:=hR4.upd hu5 (by simp)
                   have hU5:=hU4.then hu5
                   clear hR4 hU4 hu5
                   have cA:=hR5.all
                   have fA:=hR5.frz
                   have HR:=Lib.hid hR5
                   have HU:=Lib.hid hU5
                   clear hR5 hU5
                   go_wp2_with fail
                   (try simp only [Exit.inBlock,Exit.then]); refine bodyPost_ret (zk rfl _ _ r0 _ _ _ _ _ _ _ _ _ rfl (Blk.set9 HR.out _ _ _ _ _ _ _ _ _)) rfl ⟨?_,Upd.set9 HU.out (.inr HG.out) _ _ _ _ _ _ _ _ _⟩
                   rw [HV.out,HV2.out]; rfl
             · subst hfl
               have tf1:(((2056:Nat):Int) != 2048)=true:=by rw [bne_iff_ne]; omega
               have tf2:(((2056:Nat):Int) != 2056)=false:=by rw [bne_eq_false_iff_eq]; omega
               by_cases h34:x[34].toNat=0
               rotate_left
               · have HV2:Hid (yf x=(zT,0,2)):=Lib.hid (HF.out hl1 (by omega))
                 have t34:((x[34].toNat:Int) != 0)=true:=by rw [bne_iff_ne]; omega
                 have cA:=hR4.all
                 have fA:=hR4.frz
                 have HR:=Lib.hid hR4
                 have HU:=Lib.hid hU4
                 clear hR4 hU4
                 go_wp2_with fail
                 (try simp only [Exit.inBlock,Exit.then]); refine bodyPost_ret (zk rfl _ _ r0 _ _ _ _ _ _ _ _ _ rfl (Blk.set9 HR.out _ _ _ _ _ _ _ _ _)) rfl ⟨?_,Upd.set9 HU.out (.inr HG.out) _ _ _ _ _ _ _ _ _⟩
                 rw [HV.out,HV2.out]; rfl
               · have t34:((x[34].toNat:Int) != 0)=false:=by rw [bne_eq_false_iff_eq]; omega
                 by_cases h35:x[35].toNat=0
                 rotate_left
                 · have HV2:Hid (yf x=(zT,0,2)):=Lib.hid (HF.out hl1 (by omega))
                   have t35:((x[35].toNat:Int) != 0)=true:=by rw [bne_iff_ne]; omega
                   have cA:=hR4.all
                   have fA:=hR4.frz
                   have HR:=Lib.hid hR4
                   have HU:=Lib.hid hU4
                   clear hR4 hU4
                   go_wp2_with fail
                   (try simp only [Exit.inBlock,Exit.then]); refine bodyPost_ret (zk rfl _ _ r0 _ _ _ _ _ _ _ _ _ rfl (Blk.set9 HR.out _ _ _ _ _ _ _ _ _)) rfl ⟨?_,Upd.set9 HU.out (.inr HG.out) _ _ _ _ _ _ _ _ _⟩
                   rw [HV.out,HV2.out]; rfl
                 · have t35:((x[35].toNat:Int) != 0)=false:=by rw [bne_eq_false_iff_eq]; omega
                   have hpf:(zv (((ze x).drop 46).take lo)).2.2=false:=by
                    rw [← Bool.not_eq_true]; intro h; exact HGD.out ⟨hl1,hbe,by omega,h34,h35,h⟩
                   have HV2:Hid (yf x=(zT,0,5)):=Lib.hid (HN.out hl1 ⟨hbe,by omega,h34,h35⟩ hpf)
                   have HPT2:=Lib.hid (fun w=>HPT.out w hl1)
                   generalize zv (((ze x).drop 46).take lo)=pp at *
                   obtain ⟨pa,kk,okb⟩:=pp
                   dsimp only at hpf
                   subst hpf
                   unfold jq at HPT2
                   dsimp only at HPT2
                   clear h34 h35
                   go_wp2_with fail
                   refine (HPT2.out _).mono ?_
                   rintro e w5 ⟨rfl,hu5⟩
                   have hR5:=hR4.upd hu5 (by simp)
                   have hU5:=hU4.then hu5
                   clear hR4 hU4 hu5
                   have cA:=hR5.all
                   have fA:=hR5.frz
                   have HR:=Lib.hid hR5
                   have HU:=Lib.hid hU5
                   clear hR5 hU5
                   go_wp2_with fail
                   (try simp only [Exit.inBlock,Exit.then]); refine bodyPost_ret (zk rfl _ _ r0 _ _ _ _ _ _ _ _ _ rfl (Blk.set9 HR.out _ _ _ _ _ _ _ _ _)) rfl ⟨?_,Upd.set9 HU.out (.inr HG.out) _ _ _ _ _ _ _ _ _⟩
                   rw [HV.out,HV2.out]; rfl
end Go.Proofs.YtigjingielnaoaaGreatDoor
namespace Go.Proofs.YtigjingielnaoaaGreatDoor
open Go.RowKit
theorem VC : ∀ l:List RecD,(qF l).length=l.length*9
 | []=>rfl
 | r::l=>by
   have e:qF (r::l)=r.cells++qF l:=by simp [qF]
   rw [e,List.length_append,VC l,List.length_cons,Nat.succ_mul]
   rw [Nat.add_comm]
   rfl
theorem Zh (l:List RecD) (j f:Nat) (hj:j<l.length) (hf:f<9):(qF l)[j*9+f]? =(l[j].cells)[f]?:=by
 have e:qF l=qF (l.take j)++(l[j].cells++qF (l.drop (j+1))):=by
  conv=>lhs; rw [← List.take_append_drop j l,kH,List.drop_eq_getElem_cons hj]
  congr 1
 have hk:(qF (l.take j)).length=j*9:=by rw [VC,List.length_take,Nat.min_eq_left (by omega)]
 rw [e,List.getElem?_append_right (by omega),hk,Nat.add_sub_cancel_left,List.getElem?_append_left (by show f<9; exact hf)]
theorem Va (l:List RecD) (j:Nat) (h:yM (l.take j)=true):yM l=true:=by
 induction l generalizing j with
 | nil=>simp at h; exact h
 | cons r l ih =>
   cases j with
   | zero=>simp [yM] at h
   | succ j =>
     rw [List.take_succ_cons,yM,Bool.or_eq_true,decide_eq_true_eq] at h
     rw [yM,Bool.or_eq_true,decide_eq_true_eq]
     rcases h with h | h
     · left
       obtain ⟨x,hx,e⟩:=List.mem_map.1 h
       exact List.mem_map.2 ⟨x,List.mem_of_mem_take hx,e⟩
     · exact .inr (ih j h)
theorem Kg (l:List RecD) (i:Nat) (hi:i<l.length) (h:yM (l.take i)=false) (hn : ∀ k,(hk:k<i)→ze (l[k]'(by omega)).p≠ze l[i].p):yM (l.take (i+1))=false:=by
 rw [List.take_succ_eq_append_getElem hi,js,h,Bool.false_or]
 refine decide_eq_false ?_
 intro hm
 obtain ⟨x,hx,e⟩:=List.mem_map.1 hm
 obtain ⟨k,hk,rfl⟩:=List.getElem_of_mem hx
 rw [List.length_take] at hk
 rw [List.getElem_take] at e
 exact hn k (by omega) e
theorem Wy (l:List RecD) (i k:Nat) (hi:i<l.length) (hk:k<i) (h:ze (l[k]'(by omega)).p=ze l[i].p):yM l=true:=by
 refine Va l (i+1) ?_
 rw [List.take_succ_eq_append_getElem hi,js,Bool.or_eq_true]
 refine .inr (decide_eq_true ?_)
 exact List.mem_map.2 ⟨l[k]'(by omega),List.mem_of_getElem? (i:=k) (by rw [List.getElem?_take,if_pos hk,List.getElem?_eq_getElem]),h⟩
theorem QC (p q:ByteArray):p.toList=q.toList↔ze p=ze q:=by
 refine ⟨fun h=>?_,fun h=>?_⟩
 · rw [ByteArray.toList_eq,ByteArray.toList_eq] at h
   rw [show p=q from ByteArray.ext (Array.ext' h)]
 · rw [← zw p,← zw q,h]
set_option maxRecDepth 100000 in
set_option maxHeartbeats 6400000 in
theorem VP (s:ByteArray) (many:Int) (w:World) (hs:s.size≤1000000) (hm:many≤100000):Calls Tryz.prog 44 #[.string s,.int .i64 many] w fun e w'=>zak w' (zW s many) e∧Upd [] w w':=by
 by_cases hneg:many<0
 · have HV:Hid (zW s many=([],1)):=Lib.hid (if_pos hneg)
   go_enter Tryz.func44,Tryz.ntmps44
   go_wp2
   go_ret2
   exact ⟨⟨_,by rw [HV.out]; rfl,by rw [HV.out]; exact Row.nil _ _ _⟩,Upd.refl _ _⟩
 · obtain ⟨n,rfl⟩ : ∃ n:Nat,many=n:=⟨many.toNat,by omega⟩
   obtain ⟨i0,hi,hz0,hz1,hz2⟩:=info_parts zah
   have hneg2 : ¬ (n:Int)<0:=hneg
   clear hneg
   go_enter Tryz.func44,Tryz.ntmps44
   go_wp2
   go_loopg [6,7,8] n (fun gg s6 s7 s8 wr => ∃ i,i≤n∧gg=n-i∧s8 = .int .i64 (i:Nat) ∧ ∃ (l:List RecD) (a:Nat),s7 = .int .i64 (a:Nat)∧l.length=i∧Hid (zR s i=(0,l,a))∧Hid (Row wr 52 9 s6 i (qF l))∧Hid (∀ g,s6.ownBlock=some g→w.heap.size≤g)∧Hid (Upd [] w wr))
   case atStart=>exact ⟨0,Nat.zero_le _,rfl,rfl,[],0,rfl,rfl,Lib.hid rfl,Lib.hid (Row.nil _ _ _),Lib.hid (fun g hg=>by cases hg),Lib.hid (Upd.refl _ _)⟩
   case round =>
    obtain ⟨i,hin,rfl,rfl,l,a,rfl,hll,HE,HRow,HO,HU⟩:=hrel
    have hal:a≤s.size:=by have:=Yf s i; rw [HE.out] at this; exact this
    by_cases hc:i<n
    · have hcz:(i:Int)<(n:Int):=by omega
      have hst:=Xt s HE.out
      have hsp:=Xj s HE.out
      have hat:=Jc s a
      obtain ⟨x,hx⟩ : ∃ x,x=zt s a:=⟨_,rfl⟩
      have HRD:=Lib.hid (fun w=>YC s (a:Nat) w hs)
      rw [← hx] at HRD hst hsp hat
      clear hx
      obtain ⟨⟨p,m,sum,le,wh,k,md,t,pos⟩,nx,why⟩:=x
      dsimp only at hst hsp hat
      unfold qf RecD.v at HRD
      dsimp only at HRD
      obtain ⟨va,vc,rfl⟩:=HRow.out.form
      by_cases hw:why=0
      · subst hw
        have HST:=Lib.hid (hst rfl)
        have hax:=hat rfl hal
        clear hst hsp hat
        go_wp2_with fail
        refine (HRD.out _).mono ?_
        rintro e w1 ⟨rfl,hu1⟩
        have HQ:=Lib.hid (Blk.new w1 [.string p,.int .i64 m,.int .u32 (sum:Nat),.int .i64 le,.int .i64 wh,.int .i64 k,.int .i64 md,.int .u32 (t:Nat),.int .i64 pos] 52)
        have HR1:=Lib.hid ((HRow.out.upd hu1 (by simp)).alloc (.cells #[.string p,.int .i64 m,.int .u32 (sum:Nat),.int .i64 le,.int .i64 wh,.int .i64 k,.int .i64 md,.int .u32 (t:Nat),.int .i64 pos] 52))
        have HU1:=Lib.hid ((HU.out.then hu1).alloc (.cells #[.string p,.int .i64 m,.int .u32 (sum:Nat),.int .i64 le,.int .i64 wh,.int .i64 k,.int .i64 md,.int .u32 (t:Nat),.int .i64 pos] 52))
        clear HRow HU hu1
        have HF:Hid (∀ (v:Value) (w3:World),Row w3 52 9 v (i+1) (qF l++[.string p,.int .i64 m,.int .u32 (sum:Nat),.int .i64 le,.int .i64 wh,.int .i64 k,.int .i64 md,.int .u32 (t:Nat),.int .i64 pos])→Upd (Value.slice va i vc).ownBlock.toList ((w1.alloc (.cells #[.string p,.int .i64 m,.int .u32 (sum:Nat),.int .i64 le,.int .i64 wh,.int .i64 k,.int .i64 md,.int .u32 (t:Nat),.int .i64 pos] 52)).alloc (.cells #[.string p,.int .i64 m,.int .u32 (sum:Nat),.int .i64 le,.int .i64 wh,.int .i64 k,.int .i64 md,.int .u32 (t:Nat),.int .i64 pos] 52)) w3→Later ((w1.alloc (.cells #[.string p,.int .i64 m,.int .u32 (sum:Nat),.int .i64 le,.int .i64 wh,.int .i64 k,.int .i64 md,.int .u32 (t:Nat),.int .i64 pos] 52)).alloc (.cells #[.string p,.int .i64 m,.int .u32 (sum:Nat),.int .i64 le,.int .i64 wh,.int .i64 k,.int .i64 md,.int .u32 (t:Nat),.int .i64 pos] 52)) (.slice va i vc) v →
         Hid (Row w3 52 9 v (i+1) (qF (l++[(⟨p,m,sum,le,wh,k,md,t,pos⟩:RecD)])))∧Hid (∀ g,v.ownBlock=some g→w.heap.size≤g)∧Hid (Upd [] w w3)):=Lib.hid (by
         intro v w3 hR3 hu3 hl3
         have hs1:=HU1.out.size
         have hO2 : ∀ k,k∈(Value.slice va i vc).ownBlock.toList→w.heap.size≤k:=fun k hk=>HO.out k (by simpa using hk)
         refine ⟨Lib.hid (by rw [kH,VD]; exact hR3),Lib.hid (fun g hg=>?_),Lib.hid ?_⟩
         · rcases hl3 with e | ⟨g',e1,e2⟩
           · exact HO.out g (by rw [← e]; exact hg)
           · rw [hg] at e1; simp at e1; rw [World.size_alloc] at e2; omega
         · exact (HU1.out.alloc _).trans hu3 (fun k hk => .inr (hO2 _ hk)))
        have dA:=HQ.out.all
        go_wp2_with (at_builtin; refine zE _ rfl _ _ 42 rfl 52 i0 _ 9 80 Tryz.underlying42 hi hz0 hz1 hz2 rfl (by omega) (.slice va i vc) i _ rfl (HR1.out.alloc _) ⟨w1.heap.size+1,0,none⟩ 1 1 [.string p,.int .i64 m,.int .u32 (sum:Nat),.int .i64 le,.int .i64 wh,.int .i64 k,.int .i64 md,.int .u32 (t:Nat),.int .i64 pos] rfl rfl (World.news_of_block (cs := #[.string p,.int .i64 m,.int .u32 (sum:Nat),.int .i64 le,.int .i64 wh,.int .i64 k,.int .i64 md,.int .u32 (t:Nat),.int .i64 pos]) (t:=52) (fr:=(0,0)) (by have:=heap_alloc_new (w1.alloc (.cells #[.string p,.int .i64 m,.int .u32 (sum:Nat),.int .i64 le,.int .i64 wh,.int .i64 k,.int .i64 md,.int .u32 (t:Nat),.int .i64 pos] 52)) (.cells #[.string p,.int .i64 m,.int .u32 (sum:Nat),.int .i64 le,.int .i64 wh,.int .i64 k,.int .i64 md,.int .u32 (t:Nat),.int .i64 pos] 52); rwa [World.size_alloc] at this)) (by simp [Value.oneCell']) (by unfold maxLen; omega) (by omega) ?_)
        rintro v3 w3 hR3 hu3 hl3
        obtain ⟨f1,f2,f3⟩:=HF.out v3 w3 hR3 hu3 hl3
        clear hR3 hu3 hl3 dA HF HR1 HU1 HQ
        go_wp2
        go_roundg (n-(i+1))
        · refine ⟨i+1,by omega,rfl,by first | rfl | go_num,l++[(⟨p,m,sum,le,wh,k,md,t,pos⟩:RecD)],a+nx,by first | rfl | go_num,by rw [List.length_append,hll]; rfl,HST,f1,f2,f3⟩
        · omega
      · have HSP:=Lib.hid (hsp hw n hc)
        have HV:Hid (zW s (n:Nat)=([],why)):=Lib.hid (by rw [VJ (by rw [HSP.out]; exact hw),HSP.out])
        have tw:((why:Int) != 0)=true:=by rw [bne_iff_ne]; omega
        clear hst hsp hat
        go_wp2_with fail
        refine (HRD.out _).mono ?_
        rintro e w1 ⟨rfl,hu1⟩
        have HU1:=Lib.hid ((HU.out.then hu1).alloc (.cells #[.string p,.int .i64 m,.int .u32 (sum:Nat),.int .i64 le,.int .i64 wh,.int .i64 k,.int .i64 md,.int .u32 (t:Nat),.int .i64 pos] 52))
        clear hu1 HRow HU
        go_wp2
        go_ret2
        exact ⟨⟨_,by rw [HV.out]; rfl,by rw [HV.out]; exact Row.nil _ _ _⟩,HU1.out⟩
    · have hcz : ¬ (i:Int)<(n:Int):=by omega
      have hin2:i=n:=by omega
      subst hin2
      have hcr:=HE.out
      by_cases h1:a<s.size
      · have HV:Hid (zW s (i:Nat)=([],14)):=Lib.hid (by unfold zW; rw [if_neg (by omega),Int.toNat_natCast,hcr]; dsimp only; rw [if_neg (by omega),if_pos h1])
        have h1z:(a:Int)<(s.size:Int):=by omega
        clear hcr
        go_wp2
        go_ret2
        exact ⟨⟨_,by rw [HV.out]; rfl,by rw [HV.out]; exact Row.nil _ _ _⟩,HU.out⟩
      · have h1z : ¬ (a:Int)<(s.size:Int):=by omega
        have HV:Hid (zW s (i:Nat)=if yM l=true then ([],6) else (l,0)):=Lib.hid (by unfold zW; rw [if_neg (by omega),Int.toNat_natCast,hcr]; dsimp only; rw [if_neg (by omega),if_neg h1])
        clear hcr
        have HLL:=Lib.hid hll
        obtain ⟨va,vc,rfl⟩:=HRow.out.form
        generalize wr=w4 at *
        go_wp2
        go_loopg [44] i (fun gg s44 wq => ∃ j,j≤i∧gg=i-j∧s44 = .int .i64 (j:Nat)∧Hid (yM (l.take j)=false)∧Hid (Upd [] w4 wq))
        case atStart=>exact ⟨0,Nat.zero_le _,rfl,rfl,Lib.hid rfl,Lib.hid (Upd.refl _ _)⟩
        case round =>
         obtain ⟨j,hjn,rfl,rfl,HT,HUq⟩:=hrel
         by_cases hj:j<i
         · have hjz:(j:Int)<(i:Int):=by omega
           obtain ⟨gb,cap,hve,_⟩:=HRow.out.form' (by omega)
           simp only [Value.slice.injEq] at hve
           obtain ⟨rfl,_,rfl⟩:=hve
           go_wp2
           go_loopg [13] j (fun gg s13 wq2 => ∃ k,k≤j∧gg=j-k∧s13 = .int .i64 (k:Nat)∧Hid (∀ k2,(h2:k2<k) → ∀ x y,l[k2]? =some x→l[j]? =some y→ze x.p≠ze y.p)∧Hid (Upd [] w4 wq2))
           case atStart=>exact ⟨0,Nat.zero_le _,rfl,rfl,Lib.hid (fun k2 h2=>by omega),HUq⟩
           case round =>
            obtain ⟨k,hkn,rfl,rfl,HK,HU2⟩:=hrel
            by_cases hk:k<j
            · have hkz:(k:Int)<(j:Int):=by omega
              have hkiz:(k:Int)<(i:Int):=by omega
              have hkl:k<l.length:=by rw [HLL.out]; omega
              have hjl:j<l.length:=by rw [HLL.out]; omega
              obtain ⟨x,hx⟩ : ∃ x,x=l[k]:=⟨_,rfl⟩
              obtain ⟨y,hy⟩ : ∃ y,y=l[j]:=⟨_,rfl⟩
              have c0:=(HRow.out.upd HU2.out (by simp)).cell (k*9) (u := .string x.p) (by rw [show k*9=k*9+0 from rfl,Zh l k 0 hkl (by omega),hx]; rfl)
              have c1:=(HRow.out.upd HU2.out (by simp)).cell (j*9) (u := .string y.p) (by rw [show j*9=j*9+0 from rfl,Zh l j 0 hjl (by omega),hy]; rfl)
              have HX:=Lib.hid hx
              have HY:=Lib.hid hy
              obtain ⟨px,hpx⟩ : ∃ px,px=x.p:=⟨_,rfl⟩
              obtain ⟨py,hpy⟩ : ∃ py,py=y.p:=⟨_,rfl⟩
              rw [← hpx] at c0
              rw [← hpy] at c1
              have HPX:=Lib.hid hpx
              have HPY:=Lib.hid hpy
              clear hx hy hpx hpy
              by_cases he:px.toList=py.toList
              · have HV2:Hid (zW s (i:Nat)=([],6)):=Lib.hid (by
                 rw [HV.out,if_pos (Wy l j k (by rw [HLL.out]; omega) hk (by rw [← HX.out,← HY.out,← HPX.out,← HPY.out]; exact (QC _ _).1 he))])
                have t1:(px.toList==py.toList)=true:=by rw [beq_iff_eq]; exact he
                go_wp2
                go_quiet (fail)
                go_wp2
                go_ret2
                exact ⟨⟨_,by rw [HV2.out]; rfl,by rw [HV2.out]; exact Row.nil _ _ _⟩,(HU.out.then HU2.out).drewN _⟩
              · have HNE:Hid (ze x.p≠ze y.p):=Lib.hid (by rw [← HPX.out,← HPY.out]; exact fun e=>he ((QC _ _).2 e))
                have t1:(px.toList==py.toList)=false:=by rw [beq_eq_false_iff_ne]; exact he
                go_wp2
                go_quiet (fail)
                go_wp2
                go_roundg (j-(k+1))
                · refine ⟨k+1,by omega,rfl,by first | rfl | go_num,Lib.hid (fun k2 h2 x2 y2 hx2 hy2=>?_),Lib.hid (HU2.out.drewN _)⟩
                  rcases (by omega:k2<k∨k2=k) with h3 | rfl
                  · exact HK.out k2 h3 x2 y2 hx2 hy2
                  · have e1:x2=x:=by rw [HX.out]; have:=(List.getElem?_eq_some_iff.1 hx2).2; exact this.symm
                    have e2:y2=y:=by rw [HY.out]; have:=(List.getElem?_eq_some_iff.1 hy2).2; exact this.symm
                    rw [e1,e2]; exact HNE.out
                · omega
            · have hkz : ¬ (k:Int)<(j:Int):=by omega
              have hkj:k=j:=by omega
              subst hkj
              have HT2:Hid (yM (l.take (k+1))=false):=Lib.hid (Kg l k (by rw [HLL.out]; omega) HT.out (fun k2 h2=>HK.out k2 h2 _ _ (List.getElem?_eq_getElem _) (List.getElem?_eq_getElem _)))
              go_wp2
              go_roundg (i-(k+1))
              · exact ⟨k+1,by omega,rfl,by first | rfl | go_num,HT2,HU2⟩
              · omega
         · have hjz : ¬ (j:Int)<(i:Int):=by omega
           have hji:j=i:=by omega
           subst hji
           have HV2:Hid (zW s (j:Nat)=(l,0)):=Lib.hid (by
            have:=HT.out
            rw [List.take_of_length_le (by rw [HLL.out]; omega)] at this
            rw [HV.out,if_neg (by rw [this]; simp)])
           go_wp2
           go_ret2
           exact ⟨⟨_,by rw [HV2.out]; rfl,by rw [HV2.out]; show Row _ _ _ _ l.length _; rw [HLL.out]; exact HRow.out.upd HUq.out (by simp)⟩,HU.out.then HUq.out⟩
end Go.Proofs.YtigjingielnaoaaGreatDoor
namespace Go.Proofs.YtigjingielnaoaaGreatDoor
open Go.RowKit
def kG (w:World) (v:Value) (l:List RecD):Prop := ∃ a cap,v = .slice a l.length cap ∧ ∀ i,(hi:i<l.length) → ∃ b off,a=some ⟨b,off,none⟩ ∧ ∀ f u,l[i].cells[f]? =some u→w.cell? ⟨b,off+i*9+f,none⟩=some u
theorem Row.recsAt {w:World} {v:Value} {l:List RecD} (h:Row w 52 9 v l.length (qF l)):kG w v l:=by
 obtain ⟨a,cap,rfl⟩:=h.form
 refine ⟨a,cap,rfl,fun i hi=>?_⟩
 obtain ⟨g,cap',hv,_⟩:=h.form' (by omega)
 simp only [Value.slice.injEq] at hv
 obtain ⟨rfl,_,rfl⟩:=hv
 refine ⟨g,0,rfl,fun f u hu=>?_⟩
 have hf:f<9:=(List.getElem?_eq_some_iff.1 hu).1
 rw [Nat.zero_add]
 exact h.cell (i*9+f) (by rw [Zh l i f hi hf]; exact hu)
end Go.Proofs.YtigjingielnaoaaGreatDoor
namespace Go.Proofs.YtigjingielnaoaaGreatDoor
theorem Upd.keep {W w:World} {p:Addr} {v:Value} (h:Upd [] W w) (hc:W.cell? p=some v):w.cell? p=some v:=(h.cell (World.block_lt_of_cell? W p hc) (by simp)).trans hc
theorem Upd.keepN {fp:List Nat} {W w:World} {p:Addr} {v:Value} (h:Upd fp W w) (hc:W.cell? p=some v) (hn:p.block∉fp):w.cell? p=some v:=(h.cell (World.block_lt_of_cell? W p hc) hn).trans hc
def CF (w:World):List (Addr×Value)→Prop
 | []=>True
 | x::r=>w.cell? x.1=some x.2∧CF w r
theorem CF.upd {w w':World} {g:List Nat} (hU:Upd g w w') : ∀ {fs:List (Addr×Value)},CF w fs→(∀ x∈fs,x.1.block∉g)→CF w' fs
 | [],_,_=>trivial
 | x::r,h,hn=>⟨hU.keepN h.1 (hn x List.mem_cons_self),CF.upd hU h.2 (fun y hy=>hn y (List.mem_cons_of_mem _ hy))⟩
theorem CF.set {w:World} {p:Addr} (u:Value) : ∀ {fs:List (Addr×Value)},CF w fs→(∀ x∈fs,x.1≠p)→CF (w.setCell p u) fs
 | [],_,_=>trivial
 | x::r,h,hn=>⟨(World.cell?_setCell_other w p x.1 u (fun e=>hn x List.mem_cons_self e.symm)).trans h.1,CF.set u h.2 (fun y hy=>hn y (List.mem_cons_of_mem _ hy))⟩
structure HC (fp:List Nat) (W:World) (fs:List (Addr×Value)) (w:World):Prop where
 upd:Upd fp W w
 cells:CF w fs
theorem HC.of {fp:List Nat} {W:World} {fs:List (Addr×Value)} (h:CF W fs):HC fp W fs W:=⟨Upd.refl fp W,h⟩
theorem HC.drew {fp:List Nat} {W w:World} {fs:List (Addr×Value)} (h:HC fp W fs w):HC fp W fs w.drew:=⟨h.upd.drew,CF.upd ((Upd.refl [] w).drew) h.cells (by simp)⟩
theorem HC.alloc {fp:List Nat} {W w:World} {fs:List (Addr×Value)} (h:HC fp W fs w) (o:Obj):HC fp W fs (w.alloc o):=⟨h.upd.alloc o,CF.upd ((Upd.refl [] w).alloc o) h.cells (by simp)⟩
theorem HC.then {fp:List Nat} {W w w':World} {fs:List (Addr×Value)} (h:HC fp W fs w) (hU:Upd [] w w'):HC fp W fs w':=⟨h.upd.trans hU (by simp),CF.upd hU h.cells (by simp)⟩
theorem HC.set {fp:List Nat} {W w:World} {fs:List (Addr×Value)} (h:HC fp W fs w) (p:Addr) (u:Value) (hp:p.block∈fp∨W.heap.size≤p.block) (hn : ∀ x∈fs,x.1≠p):HC fp W fs (w.setCell p u):=⟨h.upd.setCell hp u,CF.set u h.cells hn⟩
theorem CF.sub {w:World} : ∀ {fs fs':List (Addr×Value)},CF w fs'→(∀ x∈fs,x∈fs')→CF w fs
 | [],_,_,_=>trivial
 | x::r,fs',h,hs=>by
   refine ⟨?_,CF.sub h (fun y hy=>hs y (List.mem_cons_of_mem _ hy))⟩
   have : ∀ {fs:List (Addr×Value)},CF w fs → ∀ y∈fs,w.cell? y.1=some y.2:=by
    intro fs
    induction fs with
    | nil=>intro _ y hy; cases hy
    | cons z r ih =>
      intro h y hy
      rcases List.mem_cons.1 hy with rfl | hy
      · exact h.1
      · exact ih h.2 y hy
   exact this h x (hs x List.mem_cons_self)
theorem HC.more {fp:List Nat} {W z w:World} {fs fs':List (Addr×Value)} (h:HC fp W fs z) (hs : ∀ x∈fs,x∈fs') (k:HC fp z fs' w):HC fp W fs w:=⟨h.upd.trans k.upd (fun _ h => .inl h),k.cells.sub hs⟩
end Go.Proofs.YtigjingielnaoaaGreatDoor
