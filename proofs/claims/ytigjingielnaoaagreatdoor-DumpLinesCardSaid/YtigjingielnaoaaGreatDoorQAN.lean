/- Package swingleref14: Perm: its walk. -/
import Derived.Test.YtigjingielnaoaaGreatDoorQAL
import Derived.Test.YtigjingielnaoaaGreatDoorQAJ
import Derived.Test.YtigjingielnaoaaGreatDoorQAE
import Derived.Test.YtigjingielnaoaaGreatDoorQAM
import Derived.Test.YtigjingielnaoaaGreatDoorQAG
import Derived.Laws.BitsAllLaws
set_option linter.unusedVariables false
set_option linter.unusedSimpArgs false
set_option linter.unusedSectionVars false
namespace Go.Proofs.YtigjingielnaoaaGreatDoor
open Go.RowKit
def JI (m i:Nat):Nat:=if m/2^i%2=0 then 45 else if i%3=0 then 120 else if i%3=1 then 119 else 114
def xw (m:Nat):Nat→List Nat
 | 0=>[]
 | i+1=>JI m i::xw m i
theorem Ze (m:Nat) : ∀ i,(xw m i).length=i
 | 0=>rfl
 | i+1=>by rw [xw,List.length_cons,Ze m i]
theorem QX (m:Nat) : ∀ (i j:Nat),i≤9→(h:j<9)→(ye m i)[j]'(by rw [yX]; exact h)=if j<i∧m/2^(8-j)%2=0 then 45 else qZ[j]'h
 | 0,j,_,h=>by rw [if_neg (by omega)]; rfl
 | i+1,j,hi,h=>by
   have ih:=QX m i j (by omega) h
   by_cases hq:m/2^(8-i)%2=0
   · have e:ye m (i+1)=(ye m i).set i 45:=by show (if m/2^(8-i)%2=0 then _ else _)=_; rw [if_pos hq]
     simp only [e,List.getElem_set]
     by_cases hij:i=j
     · subst hij
       rw [if_pos rfl,if_pos ⟨by omega,hq⟩]
     · rw [if_neg hij,ih]
       by_cases hj:j<i
       · by_cases hz:m/2^(8-j)%2=0
         · rw [if_pos ⟨hj,hz⟩,if_pos ⟨by omega,hz⟩]
         · rw [if_neg (by omega),if_neg (by omega)]
       · rw [if_neg (by omega),if_neg (by omega)]
   · have e:ye m (i+1)=ye m i:=by show (if m/2^(8-i)%2=0 then _ else _)=_; rw [if_neg hq]
     simp only [e,ih]
     by_cases hij:i=j
     · subst hij
       rw [if_neg (by omega),if_neg (by omega)]
     · by_cases hj:j<i
       · by_cases hz:m/2^(8-j)%2=0
         · rw [if_pos ⟨hj,hz⟩,if_pos ⟨by omega,hz⟩]
         · rw [if_neg (by omega),if_neg (by omega)]
       · rw [if_neg (by omega),if_neg (by omega)]
theorem QY (m:Nat) : ∀ i,i≤9→xw m i=(ye m 9).drop (9-i)
 | 0,_=>by rw [List.drop_of_length_le (by rw [yX]; omega)]; rfl
 | i+1,h=>by
   rw [List.drop_eq_getElem_cons (by rw [yX]; omega),QX m 9 (9-(i+1)) (by omega) (by omega),xw,QY m i (by omega),show 9-(i+1)+1=9-i by omega]
   congr 1
   unfold JI
   rw [show 8-(9-(i+1))=i by omega]
   by_cases hz:m/2^i%2=0
   · rw [if_pos hz,if_pos ⟨by omega,hz⟩]
   · have hz2 : ¬ (9-(i+1)<9∧m/2^i%2=0):=fun h=>hz h.2
     rw [if_neg hz,if_neg hz2]
     clear hz hz2
     rcases (by omega:i=0∨i=1∨i=2∨i=3∨i=4∨i=5∨i=6∨i=7∨i=8) with rfl | rfl | rfl | rfl | rfl | rfl | rfl | rfl | rfl<;>rfl
set_option maxRecDepth 100000 in
set_option maxHeartbeats 3200000 in
theorem zbR (n:Nat) (w:World) (hn:n<512):Calls Tryz.prog 53 #[.int .i64 (n:Nat)] w fun e w'=>e = .returned (.string (zf (ye n 9)))∧Upd [] w w':=by
 have HV:Hid (ye n 9=xw n 9):=Lib.hid (by rw [QY n 9 (by omega)]; rfl)
 rw [HV.out]
 go_enter Tryz.func53,Tryz.ntmps53
 go_wp2
 go_loopg [0,3,4] 9 (fun g s0 s3 s4 wr => ∃ i m,i≤9∧g=9-i∧s4 = .int .i64 (i:Nat)∧s0 = .int .i64 (m:Nat)∧Hid (m=n/2^i)∧m<512∧s3 = .string (zf (xw n i))∧Hid (Upd [] w wr))
 case atStart=>exact ⟨0,n,by omega,rfl,rfl,rfl,Lib.hid (by simp),hn,rfl,Lib.hid (Upd.refl _ _)⟩
 case round =>
  obtain ⟨i,m,hi,rfl,rfl,rfl,HM,hm,rfl,HU⟩:=hrel
  by_cases hc9:i<9
  · have hcz:(i:Int)<9:=by omega
    have hadd:=fun w=>VK [JI n i] (xw n i) (by rw [Ze]; simp; omega) w
    have HS:Hid ([JI n i]++xw n i=xw n (i+1)):=Lib.hid rfl
    rw [HS.out] at hadd
    have HM2:Hid (m/2=n/2^(i+1)):=Lib.hid (by rw [HM.out,Nat.div_div_eq_div_mul,Nat.pow_succ])
    have hm2:m/2<512:=by omega
    by_cases h1:m%2=1
    · have t1:((m:Int)%2==1)=true:=by simp; omega
      have hsg:JI n i=if i%3=0 then 120 else if i%3=1 then 119 else 114:=by
       unfold JI
       rw [← HM.out,if_neg (by omega)]
      have hB:=Blk.new wr [.string ({ data := #[120] }:ByteArray),.string ({ data := #[119] }:ByteArray),.string ({ data := #[114] }:ByteArray)] 9
      have h3:i%3<3:=by omega
      have ht3:((i:Int)%3).toNat=i%3:=by omega
      rcases (by omega:i%3=0∨i%3=1∨i%3=2) with e | e | e
      all_goals (
       have ez:(i:Int)%3=((i%3:Nat):Int):=by omega
       rw [e] at ez hsg
       simp at hsg)
      · have c0:=hB.cell 0 rfl
        clear hB
        rw [hsg] at hadd
        have hadd2 : ∀ w:World,(Op.stringOp .add ({ data := #[120] }:ByteArray) (zf (xw n i))).run Tryz.prog w = .ok (.string (zf (xw n (i+1)))) w:=hadd
        go_wp2
        go_roundg (9-(i+1))
        · exact ⟨i+1,m/2,by omega,rfl,by first | rfl | go_num,by first | rfl | go_num,HM2,hm2,rfl,Lib.hid (HU.out.alloc _)⟩
        · omega
      · have c0:=hB.cell 1 rfl
        clear hB
        rw [hsg] at hadd
        have hadd2 : ∀ w:World,(Op.stringOp .add ({ data := #[119] }:ByteArray) (zf (xw n i))).run Tryz.prog w = .ok (.string (zf (xw n (i+1)))) w:=hadd
        go_wp2
        go_roundg (9-(i+1))
        · exact ⟨i+1,m/2,by omega,rfl,by first | rfl | go_num,by first | rfl | go_num,HM2,hm2,rfl,Lib.hid (HU.out.alloc _)⟩
        · omega
      · have c0:=hB.cell 2 rfl
        clear hB
        rw [hsg] at hadd
        have hadd2 : ∀ w:World,(Op.stringOp .add ({ data := #[114] }:ByteArray) (zf (xw n i))).run Tryz.prog w = .ok (.string (zf (xw n (i+1)))) w:=hadd
        go_wp2
        go_roundg (9-(i+1))
        · exact ⟨i+1,m/2,by omega,rfl,by first | rfl | go_num,by first | rfl | go_num,HM2,hm2,rfl,Lib.hid (HU.out.alloc _)⟩
        · omega
    · have t1:((m:Int)%2==1)=false:=by simp; omega
      have hsg:JI n i=45:=by
       unfold JI
       rw [← HM.out,if_pos (by omega)]
      rw [hsg] at hadd
      have hadd2 : ∀ w:World,(Op.stringOp .add ({ data := #[45] }:ByteArray) (zf (xw n i))).run Tryz.prog w = .ok (.string (zf (xw n (i+1)))) w:=hadd
      clear hadd hsg HS h1
      go_wp2
      go_roundg (9-(i+1))
      · exact ⟨i+1,m/2,by omega,rfl,by first | rfl | go_num,by first | rfl | go_num,HM2,hm2,rfl,HU⟩
      · omega
  · have hcz : ¬ (i:Int)<9:=by omega
    have h9:i=9:=by omega
    subst h9
    go_wp2
    go_ret
    exact ⟨rfl,HU.out⟩
end Go.Proofs.YtigjingielnaoaaGreatDoor
namespace Go.Proofs.YtigjingielnaoaaGreatDoor
open Go.RowKit
theorem kL (w:World) (ps:List (List Nat)) (T:TypeId):TextsAt (w.alloc (.cells (ps.map fun p=>Value.string (zf p)).toArray T)) (.slice (some ⟨w.heap.size,0,none⟩) ps.length ps.length) ps:=by
 have hB:=Blk.new w (ps.map fun p=>Value.string (zf p)) T
 exact ⟨_,_,rfl,Nat.le_refl _,fun i hi=>⟨_,0,rfl,by rw [Nat.zero_add]; exact hB.cell i (by rw [List.getElem?_map,List.getElem?_eq_getElem hi]; rfl)⟩⟩
theorem zdX (n:Nat) : ∀ x∈yC n 8,x<256:=fun x hx=>by have:=QU 8 n x hx; omega
theorem WE (y mo d h mi s:Nat):(qI y mo d h mi s).length=19:=by
 unfold qI
 simp only [List.length_append,yp,List.length_cons,List.length_nil]
theorem vW (t:Nat):(yx t).length≤19:=by
 unfold yx
 split
 · rw [WE]; omega
 · simp
end Go.Proofs.YtigjingielnaoaaGreatDoor
namespace Go.Proofs.YtigjingielnaoaaGreatDoor
open Go.RowKit
def vY (r:RecD):List (List Nat):=[zA r.pos.toNat,zA r.m.toNat,zA r.l.toNat,zA r.wh.toNat,yC r.sum 8,ye r.md.toNat 9,yx r.t,zF r.k r.p]
def jy (r:RecD):List Nat:=if zM r≠0 then [] else zN 32 (vY r)
theorem kQ {r:RecD} (h:zM r=0):vh r=true∧xH r=true∧0≤r.md∧r.md≤511∧xj r.k r.t=true:=by
 unfold zM at h
 split at h
 · omega
 · split at h
   · omega
   · split at h
     · omega
     · split at h
       · omega
       · rename_i h1 h2 h3 h4
         exact ⟨by simpa using h1,by simpa using h2,by omega,by omega,by simpa using h4⟩
theorem Qr {r:RecD} (h:xH r=true):(r.m=0∨r.m=8)∧(0≤r.l∧r.l<2147483648)∧(0≤r.wh∧r.wh<2147483648)∧(0≤r.pos∧r.pos<2147483648):=by
 unfold xH at h
 split at h
 · cases h
 · rename_i h1
   have e : ∀ n,¬ yq n=false→0≤n∧n<2147483648:=fun n hn=>by
    have:yq n=true:=by simpa using hn
    unfold yq at this
    simpa using this
   refine ⟨by omega,e _ (fun h2=>h1 (.inr (.inl h2))),e _ (fun h2=>h1 (.inr (.inr (.inl h2)))),e _ (fun h2=>h1 (.inr (.inr (.inr h2))))⟩
theorem WK (r:RecD) (h1:r.pos<2147483648) (h2:r.m<2147483648) (h3:r.l<2147483648) (h4:r.wh<2147483648) : ∀ p∈vY r,∀ x∈p,x<256:=by
 intro p hp x hx
 unfold vY at hp
 simp only [List.mem_cons,List.not_mem_nil,or_false] at hp
 rcases hp with rfl | rfl | rfl | rfl | rfl | rfl | rfl | rfl
 · have:=xM 10 _ (by omega) x hx; omega
 · have:=xM 10 _ (by omega) x hx; omega
 · have:=xM 10 _ (by omega) x hx; omega
 · have:=xM 10 _ (by omega) x hx; omega
 · exact zdX _ x hx
 · exact Jq _ 9 x hx
 · exact Vo _ x hx
 · exact kI _ _ x hx
theorem zb8 (r:RecD) (h1:r.pos<2147483648) (h2:r.m<2147483648) (h3:r.l<2147483648) (h4:r.wh<2147483648) (hp:r.p.size≤1000):qr (vY r)≤2000:=by
 have a1:=yd 10 r.pos.toNat (by omega)
 have a2:=yd 10 r.m.toNat (by omega)
 have a3:=yd 10 r.l.toNat (by omega)
 have a4:=yd 10 r.wh.toNat (by omega)
 have a5:=qB 8 r.sum
 have a6:=yX r.md.toNat 9
 have a7:=vW r.t
 have a8:=xV r.k r.p
 unfold vY
 simp only [qr,List.map_cons,List.map_nil,List.sum_cons,List.sum_nil,List.length_cons,List.length_nil]
 omega
theorem zds (r:RecD) : ∀ x∈jy r,x<256:=by
 intro x hx
 unfold jy at hx
 split at hx
 · cases hx
 · rename_i h
   have h0:zM r=0:=by omega
   obtain ⟨_,hl,_,_,_⟩:=kQ h0
   obtain ⟨b1,b2,b3,b4⟩:=Qr hl
   exact kC 32 (by decide) _ (WK r b4.2 (by omega) b2.2 b3.2) x hx
set_option maxRecDepth 100000 in
set_option maxHeartbeats 6400000 in
theorem zcR (r:RecD) (w:World) (hr:r.Fits):Calls Tryz.prog 40 #[r.v] w fun e w'=>e = .returned (.string (zf (jy r)))∧Upd [] w w':=by
 have HF:=Lib.hid (fun w'=>jL r w' hr)
 by_cases hfb:zM r=0
 · have HV:=Lib.hid (show jy r=zN 32 (vY r) from if_neg (by rw [hfb]; simp))
   rw [hfb] at HF
   obtain ⟨_,hl,hm1,hm2,htb⟩:=kQ hfb
   obtain ⟨b1,b2,b3,b4⟩:=Qr hl
   have HJ:=Lib.hid (fun v w h=>ve (vY r) v w h (WK r b4.2 (by omega) b2.2 b3.2) (by simp [vY]) (by have:=zb8 r b4.2 (by omega) b2.2 b3.2 hr.p; omega))
   have HTN:=Lib.hid (fun w=>kL w (vY r) 9)
   have HN:=Lib.hid (fun w=>Zm r w hr)
   obtain ⟨p,m,sum,l,wh,k,md,t,pos⟩:=r
   dsimp only at b1 b2 b3 b4 hm1 hm2
   obtain ⟨pos,rfl⟩ : ∃ n:Nat,pos=n:=⟨pos.toNat,by omega⟩
   obtain ⟨m,rfl⟩ : ∃ n:Nat,m=n:=⟨m.toNat,by omega⟩
   obtain ⟨l,rfl⟩ : ∃ n:Nat,l=n:=⟨l.toNat,by omega⟩
   obtain ⟨wh,rfl⟩ : ∃ n:Nat,wh=n:=⟨wh.toNat,by omega⟩
   obtain ⟨md,rfl⟩ : ∃ n:Nat,md=n:=⟨md.toNat,by omega⟩
   have HW:Hid (vY ⟨p,m,sum,l,wh,k,md,t,pos⟩=[zA pos,zA m,zA l,zA wh,yC sum 8,ye md 9,yx t,zF k p]):=Lib.hid rfl
   generalize zN 32 (vY ⟨p,m,sum,l,wh,k,md,t,pos⟩)=TX at *
   rw [HW.out] at HTN HJ
   clear HW
   have hsum:=hr.sum
   have ht:=hr.t
   dsimp only at hsum ht
   have H1:=Lib.hid (fun w=>qe pos w (by omega))
   have H2:=Lib.hid (fun w=>qe m w (by omega))
   have H3:=Lib.hid (fun w=>qe l w (by omega))
   have H4:=Lib.hid (fun w=>qe wh w (by omega))
   have H5:=Lib.hid (fun w=>Qb sum 8 w hsum (by omega))
   have H6:=Lib.hid (fun w=>zcj md w (by omega))
   have H7:=Lib.hid (fun w=>VV t w ht)
   clear hr hl htb b1 b2 b3 b4 hm1 hm2 hsum ht hfb
   unfold RecD.v at HF HN ⊢
   dsimp only at HF HN ⊢
   generalize zA pos=W1 at *
   generalize zA m=W2 at *
   generalize zA l=W3 at *
   generalize zA wh=W4 at *
   generalize yC sum 8=W5 at *
   generalize ye md 9=W6 at *
   generalize yx t=W7 at *
   generalize zF k p=W8 at *
   have HB0:=Lib.hid (Blk.new w [.string p,.int .i64 (m:Nat),.int .u32 (sum:Nat),.int .i64 (l:Nat),.int .i64 (wh:Nat),.int .i64 k,.int .i64 (md:Nat),.int .u32 (t:Nat),.int .i64 (pos:Nat)] 52)
   have HU0:=Lib.hid ((Upd.refl [] w).alloc (.cells #[.string p,.int .i64 (m:Nat),.int .u32 (sum:Nat),.int .i64 (l:Nat),.int .i64 (wh:Nat),.int .i64 k,.int .i64 (md:Nat),.int .u32 (t:Nat),.int .i64 (pos:Nat)] 52))
   go_enter Tryz.func40,Tryz.ntmps40
   go_wp2_with fail
   refine (HF.out _).mono ?_
   rintro e w1 ⟨rfl,hu1⟩
   have HB1:=Lib.hid (HB0.out.upd hu1 (by simp))
   have HU1:=Lib.hid (HU0.out.then hu1)
   clear HB0 HU0 hu1
   go_upto_region 3 with fail
   generalize w.heap.size=q0 at *
   refine wp_region_held_drew (S:=fun w'=>Blk w' q0 [.string p,.int .i64 (m:Nat),.int .u32 (sum:Nat),.int .i64 (l:Nat),.int .i64 (wh:Nat),.int .i64 k,.int .i64 (md:Nat),.int .u32 (t:Nat),.int .i64 (pos:Nat)] 52∧Upd [] w w') (by kernel_rfl) ⟨HB1.out,HU1.out.drew⟩ (fun hHeld=>hdN ?_)
   refine hdT 0 (some 6) ?_; refine hdT 1 (some 7) ?_ (hy:=by intro w5 hSw; have q0c:=hSw.1.cell 8 rfl; go_simp; try with_reducible rfl)
   refine hdT 3 (some 9) ?_; refine hdT 4 (some 10) ?_ (hy:=by intro w5 hSw; have q0c:=hSw.1.cell 1 rfl; go_simp; try with_reducible rfl)
   refine hdT 6 (some 12) ?_; refine hdT 7 (some 13) ?_ (hy:=by intro w5 hSw; have q0c:=hSw.1.cell 3 rfl; go_simp; try with_reducible rfl)
   refine hdT 9 (some 15) ?_; refine hdT 10 (some 16) ?_ (hy:=by intro w5 hSw; have q0c:=hSw.1.cell 4 rfl; go_simp; try with_reducible rfl)
   refine hdT 12 (some 18) ?_; refine hdT 13 (some 19) ?_ (hy:=by intro w5 hSw; have q0c:=hSw.1.cell 2 rfl; go_simp; try with_reducible rfl)
   refine hdT 15 (some 21) ?_; refine hdT 16 (some 22) ?_ (hy:=by intro w5 hSw; have q0c:=hSw.1.cell 6 rfl; go_simp; try with_reducible rfl)
   refine hdT 18 (some 24) ?_; refine hdT 19 (some 25) ?_ (hy:=by intro w5 hSw; have q0c:=hSw.1.cell 7 rfl; go_simp; try with_reducible rfl)
   refine hdT 21 (some 27) ?_ (hy:=by intro w5 hSw; have qA:=hSw.1.all; go_simp; try with_reducible rfl)
   refine hdO 2 (fun K hK=>?_)
   go_simp
   refine (H1.out _).mono ?_
   rintro e z9 ⟨rfl,hz9⟩
   go_wp2
   refine hK.out _ _ ⟨hHeld.1.upd hz9 (by simp),hHeld.2.then hz9⟩ (fun hHeld=>hdN ?_)
   clear hK K
   refine hdO 5 (fun K hK=>?_)
   go_simp
   refine (H2.out _).mono ?_
   rintro e z9 ⟨rfl,hz9⟩
   go_wp2
   refine hK.out _ _ ⟨hHeld.1.upd hz9 (by simp),hHeld.2.then hz9⟩ (fun hHeld=>hdN ?_)
   clear hK K
   refine hdO 8 (fun K hK=>?_)
   go_simp
   refine (H3.out _).mono ?_
   rintro e z9 ⟨rfl,hz9⟩
   go_wp2
   refine hK.out _ _ ⟨hHeld.1.upd hz9 (by simp),hHeld.2.then hz9⟩ (fun hHeld=>hdN ?_)
   clear hK K
   refine hdO 11 (fun K hK=>?_)
   go_simp
   refine (H4.out _).mono ?_
   rintro e z9 ⟨rfl,hz9⟩
   go_wp2
   refine hK.out _ _ ⟨hHeld.1.upd hz9 (by simp),hHeld.2.then hz9⟩ (fun hHeld=>hdN ?_)
   clear hK K
   refine hdO 14 (fun K hK=>?_)
   go_simp
   refine (H5.out _).mono ?_
   rintro e z9 ⟨rfl,hz9⟩
   go_wp2
   refine hK.out _ _ ⟨hHeld.1.upd hz9 (by simp),hHeld.2.then hz9⟩ (fun hHeld=>hdN ?_)
   clear hK K
   refine hdO 17 (fun K hK=>?_)
   go_simp
   refine (H6.out _).mono ?_
   rintro e z9 ⟨rfl,hz9⟩
   go_wp2
   refine hK.out _ _ ⟨hHeld.1.upd hz9 (by simp),hHeld.2.then hz9⟩ (fun hHeld=>hdN ?_)
   clear hK K
   refine hdO 20 (fun K hK=>?_)
   go_simp
   refine (H7.out _).mono ?_
   rintro e z9 ⟨rfl,hz9⟩
   go_wp2
   refine hK.out _ _ ⟨hHeld.1.upd hz9 (by simp),hHeld.2.then hz9⟩ (fun hHeld=>hdN ?_)
   clear hK K
   refine hdO 22 (fun K hK=>?_)
   go_simp
   refine (HN.out _).mono ?_
   rintro e z9 ⟨rfl,hz9⟩
   go_wp2
   refine hK.out _ _ ⟨hHeld.1.upd hz9 (by simp),hHeld.2.then hz9⟩ (fun hHeld=>hdN ?_)
   clear hK K
   refine hdO 23 (fun K hK=>?_)
   go_simp
   have HTZ:=Lib.hid (HTN.out z9)
   go_wp2
   refine hK.out _ _ ⟨hHeld.1.alloc _,hHeld.2.alloc _⟩ (fun hHeld=>hdN ?_)
   clear hK K
   refine hdO 24 (fun K hK=>?_)
   go_simp
   refine (HJ.out _ _ HTZ.out).mono ?_
   rintro e z9 ⟨rfl,hz9⟩
   go_wp2
   refine hK.out _ _ ⟨hHeld.1.upd hz9 (by simp),hHeld.2.then hz9⟩ (fun hHeld=>hdN ?_)
   clear hK K
   refine hdT 25 (some 2) ?_
   refine wpAnyH_done (by kernel_rfl) ?_ 0
   go_wp2_with fail
   go_ret
   exact ⟨by rw [HV.out]; rfl,hHeld.2⟩
 · have HV:Hid (jy r=[]):=Lib.hid (if_pos hfb)
   have hne : ¬ ((zM r:Nat):Int)=0:=by omega
   clear hfb
   generalize zM r=EE at *
   generalize jy r=TX at *
   obtain ⟨p,m,sum,l,wh,k,md,t,pos⟩:=r
   unfold RecD.v at HF ⊢
   dsimp only at HF ⊢
   go_enter Tryz.func40,Tryz.ntmps40
   go_wp2_with fail
   refine (HF.out _).mono ?_
   rintro e w1 ⟨rfl,hu1⟩
   go_wp2
   go_ret
   exact ⟨by rw [HV.out]; rfl,((Upd.refl _ _).alloc _).then hu1⟩
end Go.Proofs.YtigjingielnaoaaGreatDoor
namespace Go.Proofs.YtigjingielnaoaaGreatDoor
open Go.RowKit
def je (n m:Nat):List (List Nat):=[[116,117,114,110],zA n,[108,111,110,103],zA m]
def ju (s:ByteArray):List Nat:=if (mkX (s.extract 0 (min s.size 512))).2=true then zN 32 (je (mkX (s.extract 0 (min s.size 512))).1.1.toNat (mkX (s.extract 0 (min s.size 512))).1.2.toNat) else [110,111,32,109,97,114,107]
theorem VE (n m:Nat) (hn:n<10000000000000) (hm:m<10000000000000) : ∀ p∈je n m,∀ x∈p,x<256:=by
 intro p hp x hx
 unfold je at hp
 simp only [List.mem_cons,List.not_mem_nil,or_false] at hp
 rcases hp with rfl | rfl | rfl | rfl
 · simp at hx; omega
 · have:=xM 13 n (by omega) x hx; omega
 · simp at hx; omega
 · have:=xM 13 m (by omega) x hx; omega
theorem za2 (n m:Nat) (hn:n<10000000000000) (hm:m<10000000000000):qr (je n m)≤100:=by
 have a1:=yd 13 n (by omega)
 have a2:=yd 13 m (by omega)
 unfold je
 simp only [qr,List.map_cons,List.map_nil,List.sum_cons,List.sum_nil,List.length_cons,List.length_nil]
 omega
theorem zdr (s:ByteArray) : ∀ x∈ju s,x<256:=by
 unfold ju
 split
 · rename_i h
   have:=jd (zcI h)
   exact kC 32 (by omega) _ (VE _ _ (by omega) (by omega))
 · intro x hx; simp at hx; omega
set_option maxRecDepth 100000 in
set_option maxHeartbeats 3200000 in
theorem kU (s:ByteArray) (w:World) (hs:s.size≤1000000) :
 Calls Tryz.prog 18 #[.string s] w fun e w'=>e = .returned (.string (zf (ju s)))∧Upd [] w w':=by
 obtain ⟨k,hk⟩ : ∃ k,k=min s.size 512:=⟨_,rfl⟩
 have e2:min (s.size:Int) 512=(k:Int):=by omega
 have b2:k≤s.size:=by omega
 have HV:Hid (ju s=if (mkX (s.extract 0 k)).2=true then zN 32 (je (mkX (s.extract 0 k)).1.1.toNat (mkX (s.extract 0 k)).1.2.toNat) else [110,111,32,109,97,114,107]):=Lib.hid (by rw [hk]; rfl)
 have HR:=Lib.hid (fun z=>Km (s.extract 0 k) z (by rw [ByteArray.size_extract]; omega))
 have HOK:=Lib.hid (fun h=>jd (zcI (s:=s.extract 0 k) h))
 clear hk
 generalize mkX (s.extract 0 k)=X at *
 generalize ju s=MP at *
 obtain ⟨⟨a,b⟩,ok⟩:=X
 unfold mkV at HR
 dsimp only at HV HR HOK
 go_enter Tryz.func18,Tryz.ntmps18
 go_wp2_with fail
 refine (HR.out _).mono ?_
 rintro e w1 ⟨rfl,hu⟩
 have HB2:=Lib.hid (Blk.new w1 [.int .i64 a,.int .i64 b] 80)
 have HU2:=Lib.hid (hu.alloc (.cells #[.int .i64 a,.int .i64 b] 80))
 clear hu
 go_upto_region 2 with fail
 change Code.wp _ _ _ _ (w1.alloc (.cells #[.int .i64 a,.int .i64 b] 80))
 generalize w1.alloc (.cells #[.int .i64 a,.int .i64 b] 80)=w2 at *
 generalize w1.heap.size=c at *
 cases ok with
 | false =>
   go_wp2
   go_ret
   exact ⟨by rw [HV.out]; rfl,HU2.out⟩
 | true =>
   have hb:=HOK.out rfl
   obtain ⟨n,rfl⟩ : ∃ n:Nat,a=n:=⟨a.toNat,by omega⟩
   obtain ⟨m,rfl⟩ : ∃ n:Nat,b=n:=⟨b.toNat,by omega⟩
   have hn:n<10000000000000:=by omega
   have hm:m<10000000000000:=by omega
   clear hb HOK
   have H1:=Lib.hid (fun w=>qe n w hn)
   have H2:=Lib.hid (fun w=>qe m w hm)
   have HJ:=Lib.hid (fun v w h=>ve (je n m) v w h (VE n m hn hm) (by simp [je]) (by have:=za2 n m hn hm; omega))
   have HTN:=Lib.hid (fun w=>kL w (je n m) 9)
   have HV2:Hid (MP=zN 32 (je n m)):=HV
   have HW:Hid (je n m=[[116,117,114,110],zA n,[108,111,110,103],zA m]):=Lib.hid rfl
   rw [HW.out] at HTN HJ
   rw [HW.out] at HV2
   clear HV HW
   generalize zA n=L1 at *
   generalize zA m=L2 at *
   go_upto_region 4 with fail
   refine wp_region_held_drew (S:=fun w'=>Blk w' c [.int .i64 (n:Nat),.int .i64 (m:Nat)] 80∧Upd [] w w') (by kernel_rfl) ⟨HB2.out.drew,HU2.out.drew⟩ (fun hHeld=>hdN ?_)
   refine hdT 0 (some 16) ?_; refine hdT 1 (some 17) ?_ (hy:=by intro w5 hSw; have q0c:=hSw.1.cell 0 rfl; go_simp; try with_reducible rfl)
   refine hdT 3 (some 19) ?_; refine hdT 4 (some 20) ?_ (hy:=by intro w5 hSw; have q0c:=hSw.1.cell 1 rfl; go_simp; try with_reducible rfl)
   refine hdO 2 (fun K hK=>?_)
   go_simp
   refine (H1.out _).mono ?_
   rintro e z9 ⟨rfl,hz9⟩
   go_wp2
   refine hK.out _ _ ⟨hHeld.1.upd hz9 (by simp),hHeld.2.then hz9⟩ (fun hHeld=>hdN ?_)
   clear hK K
   refine hdO 5 (fun K hK=>?_)
   go_simp
   refine (H2.out _).mono ?_
   rintro e z9 ⟨rfl,hz9⟩
   go_wp2
   refine hK.out _ _ ⟨hHeld.1.upd hz9 (by simp),hHeld.2.then hz9⟩ (fun hHeld=>hdN ?_)
   clear hK K
   refine hdO 6 (fun K hK=>?_)
   go_simp
   have HTZ:=Lib.hid (HTN.out z9)
   go_wp2
   refine hK.out _ _ ⟨hHeld.1.alloc _,hHeld.2.alloc _⟩ (fun hHeld=>hdN ?_)
   clear hK K
   refine hdO 7 (fun K hK=>?_)
   go_simp
   refine (HJ.out _ _ HTZ.out).mono ?_
   rintro e z9 ⟨rfl,hz9⟩
   go_wp2
   refine hK.out _ _ ⟨hHeld.1.upd hz9 (by simp),hHeld.2.then hz9⟩ (fun hHeld=>hdN ?_)
   clear hK K
   refine hdT 8 (some 2) ?_
   refine wpAnyH_done (by kernel_rfl) ?_ 0
   go_wp2_with fail
   go_ret
   exact ⟨by rw [HV2.out]; rfl,hHeld.2⟩
end Go.Proofs.YtigjingielnaoaaGreatDoor
namespace Go.Proofs.YtigjingielnaoaaGreatDoor
def val:List Bool→Nat
 | []=>0
 | b::l=>b.toNat+2*val l
def low:Nat→Nat→List Bool
 | 0,_=>[]
 | k+1,v=>(v%2==1)::low k (v/2)
theorem KR (l:List Bool):val l<2^l.length:=by
 induction l with
 | nil=>simp [val]
 | cons b l ih=>simp only [val,List.length_cons,Nat.pow_succ]; have:b.toNat≤1:=Bool.toNat_le b; omega
theorem vs (a b:List Bool):val (a++b)=val a+2^a.length*val b:=by
 induction a with
 | nil=>simp [val]
 | cons x a ih =>
   simp only [List.cons_append,val,ih,List.length_cons,Nat.pow_succ,Nat.mul_add]
   rw [Nat.mul_comm (2^a.length) 2,Nat.mul_assoc]; omega
theorem qp (k v:Nat):(low k v).length=k:=by
 induction k generalizing v with
 | zero=>rfl
 | succ k ih=>simp [low,ih]
theorem zdv (k v:Nat):val (low k v)=v%2^k:=by
 induction k generalizing v with
 | zero=>simp [low,val,Nat.mod_one]
 | succ k ih =>
   simp only [low,val,ih]
   have h1:(v%2==1).toNat=v%2:=by
    rcases Nat.mod_two_eq_zero_or_one v with h | h<;>simp [h]
   have h2:v%2^(k+1)=v%2+2*(v/2%2^k):=by
    rw [Nat.pow_succ,Nat.mul_comm,Nat.mod_mul]
   omega
theorem zcD (l:List Bool) (k:Nat) (h:k≤l.length):val (l.take k)=val l%2^k:=by
 have h1:=vs (l.take k) (l.drop k)
 rw [List.take_append_drop] at h1
 have h2:=KR (l.take k)
 rw [List.length_take,Nat.min_eq_left h] at h1 h2
 rw [h1,Nat.add_mul_mod_self_left,Nat.mod_eq_of_lt h2]
theorem zcv (l:List Bool) (k:Nat) (h:k≤l.length):val (l.drop k)=val l/2^k:=by
 have h1:=vs (l.take k) (l.drop k)
 rw [List.take_append_drop] at h1
 have h2:=KR (l.take k)
 rw [List.length_take,Nat.min_eq_left h] at h1 h2
 rw [h1,Nat.add_mul_div_left _ _ (Nat.two_pow_pos k),Nat.div_eq_of_lt h2,Nat.zero_add]
def zeM (L:List Bool) (i:Nat):Nat:=val ((L.drop (8*i)).take 8)
def ze1 (L:List Bool) (m:Nat):List Nat:=(List.range m).map (zeM L)
def rest (L:List Bool) (m:Nat):Nat:=val (L.drop (8*m))
def ze2 (L:List Bool):List Nat:=ze1 L ((L.length+7)/8)
theorem zdF (p X K n:Nat) (hp:p<2^n):p ||| (X &&& (2^K-1))*2^n=p+2^n*(X%2^K):=by
 rw [Nat.and_two_pow_sub_one_eq_mod,Nat.or_comm,nat_join' _ _ _ hp]
where
 nat_join' (y p n:Nat) (hp:p<2^n):y*2^n ||| p=p+2^n*y:=by
  rw [nat_join n (y*2^n) p (Nat.mul_mod_left _ _) hp,Nat.mul_comm,Nat.add_comm]
def yc (s:List Nat):List Bool:=s.flatMap (low 8)
theorem ke (s:List Nat):(yc s).length=8*s.length:=by
 induction s with
 | nil=>rfl
 | cons x s ih=>simp only [yc,List.flatMap_cons,List.length_append,qp,List.length_cons] at *; omega
theorem Vy (L:List Bool) (i n:Nat):val ((L.drop i).take n)<2^n:=by
 have h:=KR ((L.drop i).take n)
 have h2:((L.drop i).take n).length≤n:=by simp; omega
 exact Nat.lt_of_lt_of_le h (Nat.pow_le_pow_right (by omega) h2)
end Go.Proofs.YtigjingielnaoaaGreatDoor
