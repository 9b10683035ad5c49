/- Package central: Write: its walk. -/
import Derived.Test.YtfkenhihcmmgkaaGreatDoorQAQ
set_option linter.unusedVariables false
set_option linter.unusedSimpArgs false
set_option linter.unusedSectionVars false
set_option maxRecDepth 100000
set_option maxHeartbeats 12800000
namespace Go.Proofs.YtfkenhihcmmgkaaGreatDoor
open Go.RowKit
theorem zeh (r:RecD) (w:World) (h:r.Fits):Calls Tryz.prog 56 #[r.v] w fun e w'=>e = .returned (.int .i64 (46+(zw r.k r.p).length:Nat))∧Upd [] w w':=by
 have hl:=xn r.k r.p;have hp:=h.p;have HNM:=Hi (fun w=>QA r w h);obtain ⟨p,m,sum,l,wh,k,md,t,pos⟩:=r;dsimp only at hp hl HNM;unfold RecD.v at *;dsimp only at HNM ⊢;have hsz:=zk (zw k p);have HSZ:=Hi hsz;have hb:(zg (zw k p)).size≤1001:=by omega
 generalize zg (zw k p)=S at *;generalize (zw k p).length=n at *;clear hsz;go_enter Tryz.func56,Tryz.ntmps56;go_wp2_with fail
 refine (HNM.out _).mono ?_;rintro e w1 ⟨rfl,hU⟩;go_wp2;go_ret;exact ⟨by rw [← HSZ.out]; show Ending.returned (.int .i64 (46+(S.size:Int)))=_; simp,((Upd.refl _ _).alloc _).then hU⟩
theorem KZ (r:RecD) (w:World) (h:r.Fits):Calls Tryz.prog 67 #[r.v] w fun e w'=>e = .returned (.string (zg (yO r)))∧Upd [] w w':=by
 have hp:=h.p;have hs:=h.sum;have ht:=h.t;have HR:=Hi (fun w=>jM r w h);have HN:=Hi (fun w=>QA r w h);have hnl:=xn r.k r.p;have HNL:=Hi (xY r.k r.p);have HW:Hid (yO r=if yf r=0 then jI r else []):=Hi rfl;have HH:Hid (jI r=[80,75,1,2,20,3,20,0,0,8]++(leP r.m.toNat 2++(leP r.t 4++(leP r.sum 4++(leP r.l.toNat 4++(leP r.wh.toNat 4++(leP (zw r.k r.p).length 2++([0,0,0,0,0,0,0,0]++(leP (jP r.k r.md.toNat) 4++(leP r.pos.toNat 4++zw r.k r.p)))))))))):=Hi rfl;have HLT:=Hi (Vk r);have HPT:=Hi (fun h0=>vK (xv (r:=r) h0).2.1);have HMD:=Hi (fun h0=>(xv (r:=r) h0).2.2.1);generalize jI r=hd at *;generalize yO r=wr at *;by_cases hE:yf r=0;rotate_left
 · rw [if_neg hE] at HW;generalize yf r=E at *;obtain ⟨p,m,sum,l,wh,k,md,t,pos⟩:=r;unfold RecD.v at *;dsimp only at *;have t1:((E:Int) != 0)=true:=(by simpa using hE);go_enter Tryz.func67,Tryz.ntmps67;go_wp2_with fail
   refine (HR.out _).mono ?_;rintro e w1 ⟨rfl,hU1⟩;have HU:=Hi (((Upd.refl [] w).alloc (.cells #[.string p,.int .i64 m,.int .u32 (sum:Nat),.int .i64 l,.int .i64 wh,.int .i64 k,.int .i64 md,.int .u32 (t:Nat),.int .i64 pos] 26)).then hU1);go_wp2_with fail
   go_ret;exact ⟨by rw [HW.out]; rfl,HU.out⟩
 · rw [if_pos hE] at HW;rw [hE] at HR;obtain ⟨pm,pl,pw,pa⟩:=HPT.out hE;have pmd:=HMD.out hE;clear hE HPT HMD;have hsz:(zg (zw r.k r.p)).size=(zw r.k r.p).length:=zk _;have HBN:=Hi (zR _ (xY r.k r.p));generalize hS:zg (zw r.k r.p)=S at *;generalize hnm:zw r.k r.p=nm at *;obtain ⟨p,m,sum,l,wh,k,md,t,pos⟩:=r;unfold RecD.v at *;dsimp only at *;obtain ⟨mn,rfl⟩ : ∃ mn:Nat,m=mn:=⟨m.toNat,by omega⟩;obtain ⟨ln,rfl⟩ : ∃ ln:Nat,l=ln:=⟨l.toNat,by omega⟩;obtain ⟨wn,rfl⟩ : ∃ wn:Nat,wh=wn:=⟨wh.toNat,by omega⟩;obtain ⟨mdn,rfl⟩ : ∃ mdn:Nat,md=mdn:=⟨md.toNat,by omega⟩;obtain ⟨pn,rfl⟩ : ∃ pn:Nat,pos=pn:=⟨pos.toNat,by omega⟩;simp only [Int.toNat_natCast] at HH;have hmn:mn≤8:=(by omega);have hln:ln<2147483648:=(by omega);have hwn:wn<2147483648:=(by omega);have hpn:pn<2147483648:=(by omega);have hmdn:mdn≤511:=(by omega);have hz:(S.size:Int)≤1001:=(by omega);have hzn:nm.length≤1001:=(by omega);have HAT:=Hi (fun w=>zgn p (mn:Nat) sum (ln:Nat) (wn:Nat) k mdn t (pn:Nat) hmdn w);have hat:jP k mdn<9223372036854775808:=(by unfold jP; split<;>omega);generalize jP k mdn=AT at *;clear pm pl pw pa pmd;go_enter Tryz.func67,Tryz.ntmps67;go_wp2_with fail
   refine (HR.out _).mono ?_;rintro e w1 ⟨rfl,hU1⟩;have HU:=Hi (((Upd.refl [] w).alloc (.cells #[.string p,.int .i64 mn,.int .u32 (sum:Nat),.int .i64 ln,.int .i64 wn,.int .i64 k,.int .i64 mdn,.int .u32 (t:Nat),.int .i64 pn] 26)).then hU1);have hB:=(Blk.new w [.string p,.int .i64 mn,.int .u32 (sum:Nat),.int .i64 ln,.int .i64 wn,.int .i64 k,.int .i64 mdn,.int .u32 (t:Nat),.int .i64 pn] 26).upd hU1 (by simp);generalize w.heap.size=b0 at *;have hlt:=hB.lt;have hW0:=Bld.fresh 130 w1;have hBB:=hB.alloc (.cells #[.pointer none,.slice none 0 0] 130);have cA:=hBB.all;have HBB:=Hi hBB;have hA:w1.heap.size≤(w1.alloc (.cells #[.pointer none,.slice none 0 0] 130)).heap.size:=(by rw [World.size_alloc]; omega);have HL:=Hi (Below.refl w1.heap.size (w1.alloc (.cells #[.pointer none,.slice none 0 0] 130)));have hLn:([]:List Nat).length≤0:=Nat.le_refl _;go_wp2_with fail
   have hUa0:=(Upd.refl [] (w1.alloc (.cells #[.pointer none,.slice none 0 0] 130))).alloc (.cells #[.int .i64 33639248] 3);have hS0:Blk ((w1.alloc (.cells #[.pointer none,.slice none 0 0] 130)).alloc (.cells #[.int .i64 33639248] 3)) (w1.heap.size+1) (qL [33639248]) 3:=(by have hq:=Blk.new (w1.alloc (.cells #[.pointer none,.slice none 0 0] 130)) (qL [33639248]) 3; rw [World.size_alloc] at hq; exact hq);have hgn0:(w1.heap.size+1)≠w1.heap.size:=(by have:=hW0.lt; omega);refine (QY w1.heap.size w1.heap.size (w1.heap.size+1) 1 _ [33639248] _ (hW0.upd hUa0) hS0 hgn0 (by intro x hx; simp at hx; omega) rfl (by omega) (by omega) (by have:=hUa0.size; omega)).mono ?_;rintro e x0 ⟨rfl,hWx0,hLx0,-⟩;have hLnx0:([]++zJ 4 [33639248]).length≤4:=(by rw [List.length_append,yK]; simp only [List.length_cons,List.length_nil]; omega);have hLax0:=(hUa0.belowB hA).trans hLx0;have HLx0:=Hi (HL.out.trans hLax0);have hBx0:=HBB.out.below hLax0 hlt;have hAx0:=Nat.le_trans hA hLax0.size;clear cA;have dA:=hBx0.all;have HBx0:=Hi hBx0;clear hBx0;go_wp2_with fail
   have hUa1:=(Upd.refl [] x0).alloc (.cells #[.int .i64 788,.int .i64 20,.int .i64 2048,.int .i64 (mn:Nat)] 3);have hS1:Blk (x0.alloc (.cells #[.int .i64 788,.int .i64 20,.int .i64 2048,.int .i64 (mn:Nat)] 3)) x0.heap.size (qL [788,20,2048,mn]) 3:=Blk.new x0 (qL [788,20,2048,mn]) 3;have hgn1:x0.heap.size≠w1.heap.size:=(by have:=hWx0.lt; omega);refine (zaW w1.heap.size w1.heap.size x0.heap.size 4 _ [788,20,2048,mn] _ (hWx0.upd hUa1) hS1 hgn1 (by intro x hx; simp at hx; omega) rfl (by omega) (by omega) (by have:=hUa1.size; omega)).mono ?_;rintro e x1 ⟨rfl,hWx1,hLx1,-⟩;have hLnx1:([]++zJ 4 [33639248]++zJ 2 [788,20,2048,mn]).length≤12:=(by rw [List.length_append,yK]; simp only [List.length_cons,List.length_nil]; omega);have hLax1:=(hUa1.belowB hAx0).trans hLx1;have HLx1:=Hi (HLx0.out.trans hLax1);have hBx1:=HBx0.out.below hLax1 hlt;have hAx1:=Nat.le_trans hAx0 hLax1.size;clear dA;have cA:=hBx1.all;have HBx1:=Hi hBx1;clear hBx1;go_wp2_with fail
   have hUa2:=(Upd.refl [] x1).alloc (.cells #[.int .i64 (t:Nat),.int .i64 (sum:Nat),.int .i64 (ln:Nat),.int .i64 (wn:Nat)] 3);have hS2:Blk (x1.alloc (.cells #[.int .i64 (t:Nat),.int .i64 (sum:Nat),.int .i64 (ln:Nat),.int .i64 (wn:Nat)] 3)) x1.heap.size (qL [t,sum,ln,wn]) 3:=Blk.new x1 (qL [t,sum,ln,wn]) 3;have hgn2:x1.heap.size≠w1.heap.size:=(by have:=hWx1.lt; omega);refine (QY w1.heap.size w1.heap.size x1.heap.size 4 _ [t,sum,ln,wn] _ (hWx1.upd hUa2) hS2 hgn2 (by intro x hx; simp at hx; omega) rfl (by omega) (by omega) (by have:=hUa2.size; omega)).mono ?_;rintro e x2 ⟨rfl,hWx2,hLx2,-⟩;have hLnx2:([]++zJ 4 [33639248]++zJ 2 [788,20,2048,mn]++zJ 4 [t,sum,ln,wn]).length≤28:=(by rw [List.length_append,yK]; simp only [List.length_cons,List.length_nil]; omega);have hLax2:=(hUa2.belowB hAx1).trans hLx2;have HLx2:=Hi (HLx1.out.trans hLax2);have hBx2:=HBx1.out.below hLax2 hlt;have hAx2:=Nat.le_trans hAx1 hLax2.size;clear cA;have dA:=hBx2.all;have HBx2:=Hi hBx2;clear hBx2;go_wp2_with fail
   refine (HN.out _).mono ?_;rintro e x3 ⟨rfl,hN3⟩;have hWx3:=hWx2.upd hN3;have hLx3:=hN3.belowB hAx2;have HLx3:=Hi (HLx2.out.trans hLx3);have hBx3:=HBx2.out.below hLx3 hlt;have hAx3:=Nat.le_trans hAx2 hLx3.size;clear dA;have cA:=hBx3.all;have HBx3:=Hi hBx3;clear hBx3;go_wp2_with fail
   have hUa4:=(Upd.refl [] x3).alloc (.cells #[.int .i64 (nm.length:Nat),.int .i64 0,.int .i64 0,.int .i64 0,.int .i64 0] 3);have hS4:Blk (x3.alloc (.cells #[.int .i64 (nm.length:Nat),.int .i64 0,.int .i64 0,.int .i64 0,.int .i64 0] 3)) x3.heap.size (qL [nm.length,0,0,0,0]) 3:=Blk.new x3 (qL [nm.length,0,0,0,0]) 3;have hgn4:x3.heap.size≠w1.heap.size:=(by have:=hWx3.lt; omega);refine (zaW w1.heap.size w1.heap.size x3.heap.size 5 _ [nm.length,0,0,0,0] _ (hWx3.upd hUa4) hS4 hgn4 (by intro x hx; simp at hx; omega) rfl (by omega) (by omega) (by have:=hUa4.size; omega)).mono ?_;rintro e x4 ⟨rfl,hWx4,hLx4,-⟩;have hLnx4:([]++zJ 4 [33639248]++zJ 2 [788,20,2048,mn]++zJ 4 [t,sum,ln,wn]++zJ 2 [nm.length,0,0,0,0]).length≤38:=(by rw [List.length_append,yK]; simp only [List.length_cons,List.length_nil]; omega);have hLax4:=(hUa4.belowB hAx3).trans hLx4;have HLx4:=Hi (HLx3.out.trans hLax4);have hBx4:=HBx3.out.below hLax4 hlt;have hAx4:=Nat.le_trans hAx3 hLax4.size;clear cA;have dA:=hBx4.all;have HBx4:=Hi hBx4;clear hBx4;go_wp2_with fail
   refine wp_region_held_drew (S:=fun w'=>Blk w' b0 [.string p,.int .i64 mn,.int .u32 (sum:Nat),.int .i64 ln,.int .i64 wn,.int .i64 k,.int .i64 mdn,.int .u32 (t:Nat),.int .i64 pn] 26∧Below w1.heap.size (w1.alloc (.cells #[.pointer none,.slice none 0 0] 130)) w'∧w1.heap.size≤w'.heap.size) (by kernel_rfl) ⟨HBx4.out,Below.drew HLx4.out,hAx4⟩ (fun hHeld=>?_);change wpAnyH _ _ _ _ _ 7 #[false,false,false,false,false,false,false] _ _;refine yC (i:=0) (d:=some 38) (v:=?v0_1) rfl rfl (by kernel_rfl) (by kernel_rfl) (by kernel_rfl) (fun _ _ _ h=>h) (by rfl) ?hy0_1 (by assumption) ?r0_1
   case hy0_1=>(intro w hSw; (try dsimp only at hSw); go_simp; try with_reducible rfl)
   try simp only [Act.put,List.setIfInBounds_toArray,List.set_cons_zero,List.set_cons_succ]
   change wpAnyH _ _ _ _ _ 6 #[true,false,false,false,false,false,false] _ _;refine yC (i:=1) (d:=some 39) (v:=?v1_2) rfl rfl (by kernel_rfl) (by kernel_rfl) (by kernel_rfl) (fun _ _ _ h=>h) (by rfl) ?hy1_2 (by assumption) ?r1_2
   case hy1_2=>(intro w hSw; have qA:=hSw.1.all; go_simp; try with_reducible rfl)
   try simp only [Act.put,List.setIfInBounds_toArray,List.set_cons_zero,List.set_cons_succ]
   change wpAnyH _ _ _ _ _ 5 #[true,true,false,false,false,false,false] _ _;refine yC (i:=3) (d:=some 41) (v:=?v3_3) rfl rfl (by kernel_rfl) (by kernel_rfl) (by kernel_rfl) (fun _ _ _ h=>h) (by rfl) ?hy3_3 (by assumption) ?r3_3
   case hy3_3=>(intro w hSw; (try dsimp only at hSw); go_simp; try with_reducible rfl)
   try simp only [Act.put,List.setIfInBounds_toArray,List.set_cons_zero,List.set_cons_succ]
   change wpAnyH _ _ _ _ _ 4 #[true,true,false,true,false,false,false] _ _;refine yC (i:=4) (d:=some 42) (v:=?v4_4) rfl rfl (by kernel_rfl) (by kernel_rfl) (by kernel_rfl) (fun _ _ _ h=>h) (by rfl) ?hy4_4 (by assumption) ?r4_4
   case hy4_4=>(intro w hSw; have qA:=hSw.1.all; go_simp; try with_reducible rfl)
   try simp only [Act.put,List.setIfInBounds_toArray,List.set_cons_zero,List.set_cons_succ]
   change wpAnyH _ _ _ _ _ 3 #[true,true,false,true,true,false,false] _ _;refine wpAnyH_ready (rs:=[2]) (by kernel_rfl) (by simp) ?_;refine AllReadyH.cons rfl (fun K hK=>?_) AllReadyH.nil;go_simp;refine (HAT.out _).mono ?_;rintro e z1 ⟨rfl,hz1⟩;have hWz1:=hWx4.drew.upd hz1;have hS1:Blk z1 b0 [.string p,.int .i64 mn,.int .u32 (sum:Nat),.int .i64 ln,.int .i64 wn,.int .i64 k,.int .i64 mdn,.int .u32 (t:Nat),.int .i64 pn] 26∧Below w1.heap.size (w1.alloc (.cells #[.pointer none,.slice none 0 0] 130)) z1∧w1.heap.size≤z1.heap.size:=⟨hHeld.1.upd hz1 (by simp),hHeld.2.1.trans (hz1.belowB hHeld.2.2),Nat.le_trans hHeld.2.2 hz1.size⟩;go_wp2;refine hK.out _ _ hS1 (fun hHeld=>?_);clear hK K;try simp only [Act.put,List.setIfInBounds_toArray,List.set_cons_zero,List.set_cons_succ]
   change wpAnyH _ _ _ _ _ 2 #[true,true,true,true,true,false,false] _ _;refine wpAnyH_ready (rs:=[5]) (by kernel_rfl) (by simp) ?_;refine AllReadyH.cons rfl (fun K hK=>?_) AllReadyH.nil;go_simp;have hz2:=(Upd.refl [] z1).alloc (.cells #[.int .i64 (AT:Nat),.int .i64 (pn:Nat)] 3);have hWz2:=hWz1.upd hz2;have hS2:Blk (z1.alloc (.cells #[.int .i64 (AT:Nat),.int .i64 (pn:Nat)] 3)) b0 [.string p,.int .i64 mn,.int .u32 (sum:Nat),.int .i64 ln,.int .i64 wn,.int .i64 k,.int .i64 mdn,.int .u32 (t:Nat),.int .i64 pn] 26∧Below w1.heap.size (w1.alloc (.cells #[.pointer none,.slice none 0 0] 130)) (z1.alloc (.cells #[.int .i64 (AT:Nat),.int .i64 (pn:Nat)] 3))∧w1.heap.size≤(z1.alloc (.cells #[.int .i64 (AT:Nat),.int .i64 (pn:Nat)] 3)).heap.size:=⟨hHeld.1.upd hz2 (by simp),hHeld.2.1.trans (hz2.belowB hHeld.2.2),Nat.le_trans hHeld.2.2 hz2.size⟩;go_wp2;refine hK.out _ _ hS2 (fun hHeld=>?_);clear hK K;try simp only [Act.put,List.setIfInBounds_toArray,List.set_cons_zero,List.set_cons_succ]
   change wpAnyH _ _ _ _ _ 1 #[true,true,true,true,true,true,false] _ _;refine wpAnyH_ready (rs:=[6]) (by kernel_rfl) (by simp) ?_;refine AllReadyH.cons rfl (fun K hK=>?_) AllReadyH.nil;go_simp;have hgz:z1.heap.size≠w1.heap.size:=(by have:=hWz1.lt; omega);refine (QY w1.heap.size w1.heap.size z1.heap.size 2 _ [AT,pn] _ hWz2 (Blk.new z1 (qL [AT,pn]) 3) hgz (by intro x hx; simp at hx; omega) rfl (by omega) (by omega) hHeld.2.2).mono ?_;rintro e z3 ⟨rfl,hWz3,hLz3,-⟩;have hS3:Blk z3 b0 [.string p,.int .i64 mn,.int .u32 (sum:Nat),.int .i64 ln,.int .i64 wn,.int .i64 k,.int .i64 mdn,.int .u32 (t:Nat),.int .i64 pn] 26∧Below w1.heap.size (w1.alloc (.cells #[.pointer none,.slice none 0 0] 130)) z3∧w1.heap.size≤z3.heap.size:=⟨hHeld.1.below hLz3 hlt,hHeld.2.1.trans hLz3,Nat.le_trans hHeld.2.2 hLz3.size⟩;go_wp2;refine hK.out _ _ hS3 (fun hHeld=>?_);clear hK K;try simp only [Act.put,List.setIfInBounds_toArray,List.set_cons_zero,List.set_cons_succ]
   change wpAnyH _ _ _ _ _ 0 #[true,true,true,true,true,true,true] _ _;refine wpAnyH_done (by kernel_rfl) ?_ 0;have hS9:=hHeld;clear hHeld;have gA:=hS9.1.all;go_wp2_with fail
   refine (HN.out _).mono ?_;rintro e y1 ⟨rfl,hN1⟩;have hW1:=hWz3.upd hN1;have HL1:=Hi (hS9.2.1.trans (hN1.belowB hS9.2.2));have hA1:=Nat.le_trans hS9.2.2 hN1.size;go_wp2_with fail
   have hU2:=(Upd.refl [] y1).alloc (.cells #[.string S] 9);refine (QU w1.heap.size w1.heap.size y1.heap.size _ S _ (hW1.upd hU2) ((Blk.new y1 [.string S] 9).cell 0 rfl) (by simp only [List.length_append,yK,List.length_nil,List.length_cons]; omega) (by have:=hU2.size; omega)).mono ?_;rintro e y2 ⟨rfl,hW2,hL2⟩;have HL2:=Hi ((HL1.out.trans (hU2.belowB hA1)).trans hL2);rw [HBN.out] at hW2;have hhd:[]++zJ 4 [33639248]++zJ 2 [788,20,2048,mn]++zJ 4 [t,sum,ln,wn]++zJ 2 [nm.length,0,0,0,0]++zJ 4 [AT,pn]++nm=hd:=by
    rw [HH.out];simp [List.append_assoc,XN,jx,leP]
   rw [hhd] at hW2;go_wp2_with fail
   refine (JK _ _ hd _ hW2 (by rw [HH.out]; simp) HLT.out).mono ?_;rintro e y3 ⟨rfl,hL3⟩;have HL3:=Hi (HL2.out.trans hL3);go_wp2;go_ret;refine ⟨by rw [HW.out]; rfl,?_⟩;exact HU.out.then (Upd.of_below ((((Upd.refl [] w1).alloc _).below).trans HL3.out))
abbrev Rdr (w:World) (b:Nat) (r:RS):Prop:=Blk w b r.cells 228
theorem xP (b:Nat) (r:RS) (w:World) (hB:Rdr w b r):Calls Tryz.prog 107 #[.pointer (some ⟨b,0,none⟩)] w fun e w'=>e = .returned (.bool (!r.bad))∧w=w':=by
 obtain ⟨s,p,bad⟩:=r;unfold Rdr RS.cells at hB;dsimp only at *;have c2:=hB.cell 2 rfl;go_enter Tryz.func107,Tryz.ntmps107;go_wp2;go_ret;exact ⟨rfl,rfl⟩
theorem Qo (b:Nat) (r:RS) (w:World) (hB:Rdr w b r):Calls Tryz.prog 109 #[.pointer (some ⟨b,0,none⟩)] w fun e w'=>e = .returned (.int .i64 (r.p:Nat))∧w=w':=by
 obtain ⟨s,p,bad⟩:=r;unfold Rdr RS.cells at hB;dsimp only at *;have c2:=hB.cell 1 rfl;go_enter Tryz.func109,Tryz.ntmps109;go_wp2;go_ret;exact ⟨rfl,rfl⟩
theorem Xg (b:Nat) (r:RS) (w:World) (hB:Rdr w b r) (hs:r.s.size≤1000000) (hp:r.p≤r.s.size):Calls Tryz.prog 127 #[.pointer (some ⟨b,0,none⟩)] w fun e w'=>e = .returned (.int .i64 ((r.s.size:Int)-(r.p:Nat)))∧Upd [] w w'∧Rdr w' b r:=by
 obtain ⟨s,p,bad⟩:=r;unfold Rdr RS.cells at hB ⊢;dsimp only at *;have cA:=hB.all;have HB:=Hi hB;clear hB;go_enter Tryz.func127,Tryz.ntmps127;go_wp2
 go_quiet (fail)
 go_wp2;go_ret;exact ⟨rfl,(Upd.refl _ _).drewN _,HB.out⟩
theorem qp (s:ByteArray) (w:World):Calls Tryz.prog 105 #[.string s] w fun e w'=>e = .returned (.pointer (some ⟨w.heap.size,0,none⟩))∧Rdr w' w.heap.size ⟨s,0,false⟩∧Upd [] w w':=by
 go_enter Tryz.func105,Tryz.ntmps105;go_wp2;go_ret;exact ⟨rfl,Blk.new w [.string s,.int .i64 0,.bool false] 228,(Upd.refl _ _).alloc _⟩
theorem vp (b n:Nat) (r:RS) (w:World) (hB:Rdr w b r) (hs:r.s.size≤1000000) (hp:r.p≤r.s.size) (hn:n≤10000000) :
 Calls Tryz.prog 172 #[.pointer (some ⟨b,0,none⟩),.int .i64 (n:Nat)] w fun e w'=>e = .returned (.string (zg (r.text n).1))∧Rdr w' b (r.text n).2∧Upd [b] w w':=by
 have HF:=Hi (fun w hB=>xP b r w hB);have HL:=Hi (fun w hB=>Xg b r w hB hs hp);have HB:=Hi hB;obtain ⟨s,p,bad⟩:=r;dsimp only at *;cases bad with
 | true =>
   have HT:=Hi (RS.text_bad (r:=⟨s,p,true⟩) rfl n);clear hB;go_enter Tryz.func172,Tryz.ntmps172;go_wp2_with fail
   refine (HF.out _ HB.out).mono ?_;rintro e w1 ⟨rfl,rfl⟩;go_wp2;go_ret;exact ⟨by rw [HT.out]; rfl,by rw [HT.out]; exact HB.out,Upd.refl _ _⟩
 | false =>
   by_cases hc:s.size-p<n
   · have HT:=Hi (RS.text_short (s:=s) (p:=p) n hc);have hcz:(s.size:Int)-(p:Int)<(n:Int):=(by omega);have hn0 : ¬ (n:Int)<0:=(by omega);clear hB;go_enter Tryz.func172,Tryz.ntmps172;(go_wp2_with fail);refine (HF.out _ HB.out).mono ?_;rintro e w1 ⟨rfl,rfl⟩;(go_wp2_with fail);refine (HL.out _ HB.out).mono ?_;rintro e w2 ⟨rfl,hU,hB2⟩;have c2:=Blk.cell hB2 2 rfl;have f2:=Blk.frz hB2 2;have HB2:=Hi hB2;have HU:=Hi hU;clear hB2 hU;go_wp2;go_ret;refine ⟨by rw [HT.out]; rfl,?_,?_⟩
     · rw [HT.out]; exact Blk.set HB2.out 2 _
     · exact (HU.out.mono (by simp)).setCell (.inl (by simp)) _
   · have hc':n≤s.size-p:=(by omega);have HT:=Hi (RS.text_fine (s:=s) (p:=p) n hc');have HST:Hid (zg (((zf s).drop p).take n)=s.extract p (p+n)):=Hi (by
      rw [← zE (s.extract p (p+n)),zW,Nat.add_sub_cancel_left])
     have hcz : ¬ (s.size:Int)-(p:Int)<(n:Int):=(by omega);have hn0 : ¬ (n:Int)<0:=(by omega);clear hB;go_enter Tryz.func172,Tryz.ntmps172;(go_wp2_with fail);refine (HF.out _ HB.out).mono ?_;rintro e w1 ⟨rfl,rfl⟩;(go_wp2_with fail);refine (HL.out _ HB.out).mono ?_;rintro e w2 ⟨rfl,hU,hB2⟩;have c1:=Blk.cell hB2 1 rfl;have f1:=Blk.frz hB2 1;have HB2:=Hi hB2;have HU:=Hi hU;clear hB2 hU;go_wp2;have hB3:Blk (w2.setCell ⟨b,1,none⟩ (.int .i64 ((p:Int)+(n:Int)))) b [.string s,.int .i64 ((p+n:Nat):Int),.bool false] 228:=Blk.set HB2.out 1 _;have hU3:Upd [b] w (w2.setCell ⟨b,1,none⟩ (.int .i64 ((p:Int)+(n:Int)))):=(HU.out.mono (by simp)).setCell (.inl (by simp)) _;generalize w2.setCell ⟨b,1,none⟩ (.int .i64 ((p:Int)+(n:Int)))=w3 at *;have dA:=hB3.all;have HB3:=Hi hB3;have HU3:=Hi hU3;clear hB3 hU3
     go_quiet (fail)
     go_wp2;go_ret;refine ⟨?_,?_,HU3.out.drewN _⟩
     · rw [HT.out];show _=Ending.returned (.string (zg (((zf s).drop p).take n)));rw [HST.out]; rfl
     · rw [HT.out]; exact HB3.out
theorem ze0 (r:RS) (k:Nat) : ∃ ok,YW (zg (r.text k).1) k = .tuple #[.int .u64 ((r.num k).1:Nat),.bool ok]:=by
 have hb:zf (zg (r.text k).1)=(r.text k).1:=zR _ (r.text_lt k);unfold YW RS.num;rw [zk,hb];by_cases h:k≤(r.text k).1.length
 · rw [if_pos h,List.take_of_length_le (r.text_len k)]; exact ⟨_,rfl⟩
 · rw [if_neg h];have h0:(r.text k).1=[]:=by
    unfold RS.text at h ⊢
    repeat' split at h
    · rename_i h1; rw [if_pos h1]
    · rename_i h1 h2; rw [if_neg h1,if_pos h2]
    · rename_i h1 h2;exfalso;dsimp only at h;rw [List.length_take,List.length_drop] at h;unfold RS.l at h;rw [zi] at h;omega
   rw [h0];exact ⟨_,rfl⟩
theorem zM (b k v:Nat) (r r':RS) (w:World) (h:r.num k=(v,r')) (hB:Rdr w b r) (hs:r.s.size≤1000000) (hp:r.p≤r.s.size) (hk:k≤8) :
 Calls Tryz.prog 126 #[.pointer (some ⟨b,0,none⟩),.int .i64 (k:Nat)] w fun e w'=>e = .returned (.int .u64 (v:Nat))∧Rdr w' b r'∧Upd [b] w w':=by
 have HT:=Hi (vp b k r w hB hs hp (by omega));have hz:(zg (r.text k).1).size≤1000000:=by rw [zk]; have:=r.text_len k; omega
 have HG:=Hi (fun w=>ziU (zg (r.text k).1) k w hz hk);obtain ⟨ok,hok⟩:=ze0 r k;rw [hok,h] at HG;have h2:(r.text k).2=r':=by have:=congrArg Prod.snd h; exact this
 rw [h2] at HT;have hk8:(k:Int)≤8:=by omega
 have hk0:(0:Int)≤(k:Int):=by omega
 have HMX:max (k:Int) 0=(k:Int):=by omega
 clear hok h h2;generalize zg (r.text k).1=S at *;go_enter Tryz.func126,Tryz.ntmps126;go_wp2_with fail
 refine HT.out.mono ?_;rintro e w1 ⟨rfl,hB1,hU1⟩;have HB1:=Hi hB1;clear hB1;go_wp2_with fail
 try rw [HMX]
 refine (HG.out _).mono ?_;rintro e w2 ⟨rfl,hU2⟩;go_wp2;go_ret;exact ⟨rfl,HB1.out.upd hU2 (by simp),hU1.then (hU2.mono (by simp))⟩
theorem vy (b n:Nat) (r:RS) (w:World) (hB:Rdr w b r) (hs:r.s.size≤1000000) (hp:r.p≤r.s.size) (hn:n≤10000000) :
 Calls Tryz.prog 173 #[.pointer (some ⟨b,0,none⟩),.int .i64 (n:Nat)] w fun e w'=>e = .returned (.tuple #[])∧Rdr w' b (r.text n).2∧Upd [b] w w':=by
 have HT:=Hi (vp b n r w hB hs hp hn);go_enter Tryz.func173,Tryz.ntmps173;go_wp2_with fail
 refine HT.out.mono ?_;rintro e w1 ⟨rfl,hF⟩;go_wp2
 go_end0
 exact ⟨rfl,hF⟩
def HdD.cells (h:HdD):List Value:=[.string .empty,.int .i64 (h.m:Nat),.int .u32 (h.sum:Nat),.int .i64 (h.l:Nat),.int .i64 (h.wh:Nat),.int .i64 0,.int .i64 0,.int .u32 (h.t:Nat),.int .i64 0,.int .u64 (h.beg:Nat),.int .u64 (h.flags:Nat),.string (zg h.name)]
theorem Blk.set12 {w:World} {b:Nat} {a0 a1 a2 a3 a4 a5 a6 a7 a8 a9 a10 a11:Value} {t:TypeId} (h:Blk w b [a0,a1,a2,a3,a4,a5,a6,a7,a8,a9,a10,a11] t) (v0 v1 v2 v3 v4 v5 v6 v7 v8 v9 v10 v11:Value):Blk ((((((((((((w.setCell ⟨b,0,none⟩ v0).setCell ⟨b,1,none⟩ v1).setCell ⟨b,2,none⟩ v2).setCell ⟨b,3,none⟩ v3).setCell ⟨b,4,none⟩ v4).setCell ⟨b,5,none⟩ v5).setCell ⟨b,6,none⟩ v6).setCell ⟨b,7,none⟩ v7).setCell ⟨b,8,none⟩ v8).setCell ⟨b,9,none⟩ v9).setCell ⟨b,10,none⟩ v10).setCell ⟨b,11,none⟩ v11) b [v0,v1,v2,v3,v4,v5,v6,v7,v8,v9,v10,v11] t:=(Blk.set (Blk.set (Blk.set (Blk.set (Blk.set (Blk.set (Blk.set (Blk.set (Blk.set (Blk.set (Blk.set (Blk.set h 0 v0) 1 v1) 2 v2) 3 v3) 4 v4) 5 v5) 6 v6) 7 v7) 8 v8) 9 v9) 10 v10) 11 v11)
theorem Upd.set12 {fp:List Nat} {w0 w:World} {b:Nat} (h:Upd fp w0 w) (hb:b∈fp∨w0.heap.size≤b) (v0 v1 v2 v3 v4 v5 v6 v7 v8 v9 v10 v11:Value):Upd fp w0 ((((((((((((w.setCell ⟨b,0,none⟩ v0).setCell ⟨b,1,none⟩ v1).setCell ⟨b,2,none⟩ v2).setCell ⟨b,3,none⟩ v3).setCell ⟨b,4,none⟩ v4).setCell ⟨b,5,none⟩ v5).setCell ⟨b,6,none⟩ v6).setCell ⟨b,7,none⟩ v7).setCell ⟨b,8,none⟩ v8).setCell ⟨b,9,none⟩ v9).setCell ⟨b,10,none⟩ v10).setCell ⟨b,11,none⟩ v11):=(Upd.setCell (Upd.setCell (Upd.setCell (Upd.setCell (Upd.setCell (Upd.setCell (Upd.setCell (Upd.setCell (Upd.setCell (Upd.setCell (Upd.setCell (Upd.setCell h (p:=⟨b,0,none⟩) hb v0) (p:=⟨b,1,none⟩) hb v1) (p:=⟨b,2,none⟩) hb v2) (p:=⟨b,3,none⟩) hb v3) (p:=⟨b,4,none⟩) hb v4) (p:=⟨b,5,none⟩) hb v5) (p:=⟨b,6,none⟩) hb v6) (p:=⟨b,7,none⟩) hb v7) (p:=⟨b,8,none⟩) hb v8) (p:=⟨b,9,none⟩) hb v9) (p:=⟨b,10,none⟩) hb v10) (p:=⟨b,11,none⟩) hb v11)
theorem Blk.far12 {w:World} {d b:Nat} {cs:List Value} {t:TypeId} (h:Blk w d cs t) (hb:d≠b) (v0 v1 v2 v3 v4 v5 v6 v7 v8 v9 v10 v11:Value):Blk ((((((((((((w.setCell ⟨b,0,none⟩ v0).setCell ⟨b,1,none⟩ v1).setCell ⟨b,2,none⟩ v2).setCell ⟨b,3,none⟩ v3).setCell ⟨b,4,none⟩ v4).setCell ⟨b,5,none⟩ v5).setCell ⟨b,6,none⟩ v6).setCell ⟨b,7,none⟩ v7).setCell ⟨b,8,none⟩ v8).setCell ⟨b,9,none⟩ v9).setCell ⟨b,10,none⟩ v10).setCell ⟨b,11,none⟩ v11) d cs t:=(Blk.setFar (Blk.setFar (Blk.setFar (Blk.setFar (Blk.setFar (Blk.setFar (Blk.setFar (Blk.setFar (Blk.setFar (Blk.setFar (Blk.setFar (Blk.setFar h (a:=⟨b,0,none⟩) v0 hb) (a:=⟨b,1,none⟩) v1 hb) (a:=⟨b,2,none⟩) v2 hb) (a:=⟨b,3,none⟩) v3 hb) (a:=⟨b,4,none⟩) v4 hb) (a:=⟨b,5,none⟩) v5 hb) (a:=⟨b,6,none⟩) v6 hb) (a:=⟨b,7,none⟩) v7 hb) (a:=⟨b,8,none⟩) v8 hb) (a:=⟨b,9,none⟩) v9 hb) (a:=⟨b,10,none⟩) v10 hb) (a:=⟨b,11,none⟩) v11 hb)
theorem zcj {fn:Func} {p:Tmp} (h:fn.results = #[.cell p 169]) (tmps:Array Value) (w:World) (g:Nat) (c0 c1 c2 c3 c4 c5 c6 c7 c8 c9 c10 c11:Value) (hp:tmps.getD p undef = .pointer (some ⟨g,0,none⟩)) (hB:Blk w g [c0,c1,c2,c3,c4,c5,c6,c7,c8,c9,c10,c11] 169) :
 (results fn tmps).run Tryz.prog w = .ok (.agg #[c0,c1,c2,c3,c4,c5,c6,c7,c8,c9,c10,c11]) w:=by
 have h0:=hB.cell 0 rfl;have h1:=hB.cell 1 rfl;have h2:=hB.cell 2 rfl;have h3:=hB.cell 3 rfl;have h4:=hB.cell 4 rfl;have h5:=hB.cell 5 rfl;have h6:=hB.cell 6 rfl;have h7:=hB.cell 7 rfl;have h8:=hB.cell 8 rfl;have h9:=hB.cell 9 rfl;have h10:=hB.cell 10 rfl;have h11:=hB.cell 11 rfl;have hp2:tmps[p]?.getD undef = .pointer (some ⟨g,0,none⟩):=by rw [← hp]; simp
 simp [results,h,go_sem,hp2,h0,h1,h2,h3,h4,h5,h6,h7,h8,h9,h10,h11]
theorem RS.numL (r:RS) (k:Nat) (o:r.Ok) (s:r.s.size≤1000000) (hk:k≤8) : ∃ v r',r.num k=(v,r')∧v<256^k∧r'.Ok∧r'.s.size≤1000000∧Hid (∀ b w,Rdr w b r→Calls Tryz.prog 126 #[.pointer (some ⟨b,0,none⟩),.int .i64 (k:Nat)] w fun e w'=>e = .returned (.int .u64 (v:Nat))∧Rdr w' b r'∧Upd [b] w w') :=
 ⟨_,_,rfl,RS.num_lt r k,RS.num_ok o k,by rw [RS.text_s]; exact s,Hi (fun b w h=>zM b k _ r _ w rfl h s o hk)⟩
def Fd (w0:World) (b h:Nat) (T:TypeId) (r:RS) (cs:List Value) (w:World):Prop:=w0.heap.size≤h∧h≠b∧Rdr w b r∧Blk w h cs T∧Upd [b] w0 w
theorem Fd.num {w0 w w':World} {b h:Nat} {T:TypeId} {r r':RS} {cs:List Value} (S:Fd w0 b h T r cs w) (hR:Rdr w' b r') (hu:Upd [b] w w'):Fd w0 b h T r' cs w':=⟨S.1,S.2.1,hR,S.2.2.2.1.upd hu (by simpa using S.2.1),S.2.2.2.2.then hu⟩
theorem Fd.set {w0 w:World} {b h:Nat} {T:TypeId} {r:RS} {cs:List Value} (S:Fd w0 b h T r cs w) (i:Nat) (v:Value):Fd w0 b h T r (cs.set i v) (w.setCell ⟨h,i,none⟩ v):=⟨S.1,S.2.1,Blk.setFar S.2.2.1 v (Ne.symm S.2.1),S.2.2.2.1.set i v,S.2.2.2.2.setCell (p:=⟨h,i,none⟩) (.inr S.1) v⟩
theorem zco (b:Nat) (r:RS) (w:World) (hB:Rdr w b r) (hs:r.s.size≤1000000) (hp:r.p≤r.s.size) :
 Calls Tryz.prog 106 #[.pointer (some ⟨b,0,none⟩)] w fun e w'=>e = .returned (.agg (hdP r).1.cells.toArray)∧Rdr w' b (hdP r).2∧Upd [b] w w':=by
 obtain ⟨va,ra,ha,ba,oa,sa,Na⟩:=RS.numL r 4 hp hs (by omega);obtain ⟨vb,rb,hb,bb,ob,sb,Nb⟩:=RS.numL ra 2 oa sa (by omega);obtain ⟨vf,rf,hf,bf,of,sf,Nf⟩:=RS.numL rb 2 ob sb (by omega);obtain ⟨vm,rm,hm,bm,om,sm,Nm⟩:=RS.numL rf 2 of sf (by omega);obtain ⟨vt,rt,ht,bt,ot,st,Nt⟩:=RS.numL rm 4 om sm (by omega);obtain ⟨vu,ru,hu,bu,ou,su,Nu⟩:=RS.numL rt 4 ot st (by omega);obtain ⟨vl,rl,hl,bl,ol,sl,Nl⟩:=RS.numL ru 4 ou su (by omega);obtain ⟨vwh,rwh,hwh,bwh,owh,swh,Nwh⟩:=RS.numL rl 4 ol sl (by omega);obtain ⟨vn,rn,hn,bn,on,sn,Nn⟩:=RS.numL rwh 2 owh swh (by omega);obtain ⟨vmo,rmo,hmo,bmo,omo,smo,Nmo⟩:=RS.numL rn 2 on sn (by omega);have HD:Hid (hdP r=(⟨va,vf,vm,vt,vu,vl,vwh,(rmo.text vn).1⟩,((rmo.text vn).2.text vmo).2)):=Hi (by
  unfold hdP;simp only [ha,hb,hf,hm,ht,hu,hl,hwh,hn,hmo])
 have onm:=RS.text_ok omo vn;have snm:(rmo.text vn).2.s.size≤1000000:=by rw [RS.text_s]; exact smo
 clear ha hb hf hm ht hu hl hwh hn hmo;simp only [Nat.reducePow] at ba bb bf bm bt bu bl bwh bn bmo;have S:Hid (Fd w b w.heap.size 169 r [.string { data := #[] },.int .i64 0,.int .u32 0,.int .i64 0,.int .i64 0,.int .i64 0,.int .i64 0,.int .u32 0,.int .i64 0,.int .u64 0,.int .u64 0,.string { data := #[] }] (w.alloc (.cells #[.string { data := #[] },.int .i64 0,.int .u32 0,.int .i64 0,.int .i64 0,.int .i64 0,.int .i64 0,.int .u32 0,.int .i64 0,.int .u64 0,.int .u64 0,.string { data := #[] }] 169))):=Hi ⟨Nat.le_refl _,by have:=hB.lt; omega,hB.alloc _,Blk.new w [.string { data := #[] },.int .i64 0,.int .u32 0,.int .i64 0,.int .i64 0,.int .i64 0,.int .i64 0,.int .u32 0,.int .i64 0,.int .u64 0,.int .u64 0,.string { data := #[] }] 169,(Upd.refl [b] w).alloc _⟩;clear hB;go_enter Tryz.func106,Tryz.ntmps106;go_wp2_with fail
 generalize w.heap.size=h0 at *;refine (Na.out _ _ S.out.2.2.1).mono ?_;rintro e x ⟨rfl,hR,hu⟩;have S:=Hi (S.out.num hR hu);clear hR hu Na;have cA:=S.out.2.2.2.1.all;have fA:=S.out.2.2.2.1.frz;go_wp2_with fail
 clear cA fA;have S:=Hi (S.out.set 9 (.int .u64 (va:Nat)));simp only [List.set_cons_zero,List.set_cons_succ] at S;refine (Nb.out _ _ S.out.2.2.1).mono ?_;rintro e x ⟨rfl,hR,hu⟩;have S:=Hi (S.out.num hR hu);clear hR hu Nb;go_wp2_with fail
 refine (Nf.out _ _ S.out.2.2.1).mono ?_;rintro e x ⟨rfl,hR,hu⟩;have S:=Hi (S.out.num hR hu);clear hR hu Nf;have cA:=S.out.2.2.2.1.all;have fA:=S.out.2.2.2.1.frz;go_wp2_with fail
 clear cA fA;have S:=Hi (S.out.set 10 (.int .u64 (vf:Nat)));simp only [List.set_cons_zero,List.set_cons_succ] at S;refine (Nm.out _ _ S.out.2.2.1).mono ?_;rintro e x ⟨rfl,hR,hu⟩;have S:=Hi (S.out.num hR hu);clear hR hu Nm;have cA:=S.out.2.2.2.1.all;have fA:=S.out.2.2.2.1.frz;go_wp2_with fail
 clear cA fA;have S:=Hi (S.out.set 1 (.int .i64 (vm:Nat)));simp only [List.set_cons_zero,List.set_cons_succ] at S;refine (Nt.out _ _ S.out.2.2.1).mono ?_;rintro e x ⟨rfl,hR,hu⟩;have S:=Hi (S.out.num hR hu);clear hR hu Nt;have cA:=S.out.2.2.2.1.all;have fA:=S.out.2.2.2.1.frz;go_wp2_with fail
 clear cA fA;have S:=Hi (S.out.set 7 (.int .u32 (vt:Nat)));simp only [List.set_cons_zero,List.set_cons_succ] at S;refine (Nu.out _ _ S.out.2.2.1).mono ?_;rintro e x ⟨rfl,hR,hu⟩;have S:=Hi (S.out.num hR hu);clear hR hu Nu;have cA:=S.out.2.2.2.1.all;have fA:=S.out.2.2.2.1.frz;go_wp2_with fail
 clear cA fA;have S:=Hi (S.out.set 2 (.int .u32 (vu:Nat)));simp only [List.set_cons_zero,List.set_cons_succ] at S;refine (Nl.out _ _ S.out.2.2.1).mono ?_;rintro e x ⟨rfl,hR,hu⟩;have S:=Hi (S.out.num hR hu);clear hR hu Nl;go_wp2_with fail
 refine (Nwh.out _ _ S.out.2.2.1).mono ?_;rintro e x ⟨rfl,hR,hu⟩;have S:=Hi (S.out.num hR hu);clear hR hu Nwh;have cA:=S.out.2.2.2.1.all;have fA:=S.out.2.2.2.1.frz;go_wp2_with fail
 clear cA fA;have S:=Hi ((S.out.set 3 (.int .i64 (vl:Nat))).set 4 (.int .i64 (vwh:Nat)));simp only [List.set_cons_zero,List.set_cons_succ] at S;refine (Nn.out _ _ S.out.2.2.1).mono ?_;rintro e x ⟨rfl,hR,hu⟩;have S:=Hi (S.out.num hR hu);clear hR hu Nn;go_wp2_with fail
 refine (Nmo.out _ _ S.out.2.2.1).mono ?_;rintro e x ⟨rfl,hR,hu⟩;have S:=Hi (S.out.num hR hu);clear hR hu Nmo;go_wp2_with fail
 refine (vp b vn rmo _ S.out.2.2.1 smo omo (by omega)).mono ?_;rintro e x ⟨rfl,hR,hu⟩;have S:=Hi (S.out.num hR hu);clear hR hu;have cA:=S.out.2.2.2.1.all;have fA:=S.out.2.2.2.1.frz;go_wp2_with fail
 clear cA fA;have S:=Hi (S.out.set 11 (.string (zg (rmo.text vn).1)));simp only [List.set_cons_zero,List.set_cons_succ] at S;refine (vy b vmo _ _ S.out.2.2.1 snm onm (by omega)).mono ?_;rintro e x ⟨rfl,hR,hu⟩;have S:=Hi (S.out.num hR hu);clear hR hu;have cA:=S.out.2.2.2.1.all;have fA:=S.out.2.2.2.1.frz;go_wp2;(try simp only [Exit.inBlock,Exit.then]); refine bodyPost_ret (zcj rfl _ _ h0 _ _ _ _ _ _ _ _ _ _ _ _ rfl (Blk.set12 S.out.2.2.2.1 _ _ _ _ _ _ _ _ _ _ _ _)) rfl ⟨?_,?_,Upd.set12 S.out.2.2.2.2 (.inr S.out.1) _ _ _ _ _ _ _ _ _ _ _ _⟩
 · rw [HD.out]; rfl
 · rw [HD.out]; exact Blk.far12 S.out.2.2.1 (Ne.symm S.out.2.1) _ _ _ _ _ _ _ _ _ _ _ _
structure ChD where
 beg:Nat
 flags:Nat
 disk:Nat
 attr:Nat
 m:Nat
 t:Nat
 sum:Nat
 l:Nat
 wh:Nat
 pos:Nat
 name:List Nat
def WA (r:RS):ChD×RS :=
 let c_a:=r.num 4
 let c_k1:=c_a.2.text 4
 let c_f:=c_k1.2.num 2
 let c_m:=c_f.2.num 2
 let c_t:=c_m.2.num 4
 let c_u:=c_t.2.num 4
 let c_l:=c_u.2.num 4
 let c_wh:=c_l.2.num 4
 let c_n:=c_wh.2.num 2
 let c_ex:=c_n.2.num 2
 let c_re:=c_ex.2.num 2
 let c_di:=c_re.2.num 2
 let c_k2:=c_di.2.text 2
 let c_at:=c_k2.2.num 4
 let c_ps:=c_at.2.num 4
 let nm:=c_ps.2.text c_n.1
 let sk:=nm.2.text (c_ex.1+c_re.1)
 (⟨c_a.1,c_f.1,c_di.1,c_at.1,c_m.1,c_t.1,c_u.1,c_l.1,c_wh.1,c_ps.1,nm.1⟩,sk.2)
def XK (s:ByteArray):Nat:=46+gN s 28 2+(gN s 30 2+gN s 32 2)
theorem kK {s:ByteArray} {p:Nat} (n:Nat) (h:p+n≤s.size):(⟨s,p,false⟩:RS).text n=(((zf s).drop p).take n,⟨s,p+n,false⟩):=RS.text_fine n (by omega)
theorem zfx (s:ByteArray) (h46:46≤s.size) (h:XK s≤s.size) :
 WA ⟨s,0,false⟩=(⟨gN s 0 4,gN s 8 2,gN s 34 2,gN s 38 4,gN s 10 2,gN s 12 4,gN s 16 4,gN s 20 4,gN s 24 4,gN s 42 4,((zf s).drop 46).take (gN s 28 2)⟩,⟨s,XK s,false⟩):=by
 unfold XK at h ⊢;unfold WA;simp only [zG 4 (show 0+4≤s.size by omega),kK 4 (show 4+4≤s.size by omega),zG 2 (show 8+2≤s.size by omega),zG 2 (show 10+2≤s.size by omega),zG 4 (show 12+4≤s.size by omega),zG 4 (show 16+4≤s.size by omega),zG 4 (show 20+4≤s.size by omega),zG 4 (show 24+4≤s.size by omega),zG 2 (show 28+2≤s.size by omega),zG 2 (show 30+2≤s.size by omega),zG 2 (show 32+2≤s.size by omega),zG 2 (show 34+2≤s.size by omega),kK 2 (show 36+2≤s.size by omega),zG 4 (show 38+4≤s.size by omega),zG 4 (show 42+4≤s.size by omega),Nat.zero_add,Nat.reduceAdd];rw [kK _ (by omega)];dsimp only;rw [kK _ (by omega)]
end Go.Proofs.YtfkenhihcmmgkaaGreatDoor
