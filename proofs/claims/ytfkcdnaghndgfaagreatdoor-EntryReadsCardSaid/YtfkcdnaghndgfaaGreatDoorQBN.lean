/- Package symbol: Long, Back: walks: they tell what the lists tell. -/
import Derived.Test.YtfkcdnaghndgfaaGreatDoorQBM
import Derived.Test.YtfkcdnaghndgfaaGreatDoorQAY
import Derived.ArgAppend
import Derived.Test.YtfkcdnaghndgfaaGreatDoorQAC
import Derived.Test.YtfkcdnaghndgfaaGreatDoorQBL
import Derived.Test.YtfkcdnaghndgfaaGreatDoorQBK
import Derived.Test.YtfkcdnaghndgfaaGreatDoorQAA
set_option linter.unusedVariables false
set_option linter.unusedSimpArgs false
set_option linter.unusedSectionVars false
namespace Go.Proofs.YtfkcdnaghndgfaaGreatDoor
open Go.RowKit
theorem zgP : ∀ k:Fin 28,(zw 4 8 28 (k.val:Nat)).toNat=xC.getD k.val 0∧ja 3 4 8 28 k.val=lAt.getD k.val 0:=by decide +kernel
theorem zeh : ∀ n:Fin 259,3≤n.val→n.val≠258→vz 3 4 8 28 n.val 28 0=zP n.val 29 0∧((zP n.val 29 0).getD 99)<28:=by decide +kernel
theorem zf2:zP 258 29 0=some 28:=by decide +kernel
theorem zaw : ∀ k:Fin 30,(zw 2 4 30 (k.val:Nat)).toNat=dBt k.val∧ja 1 2 4 30 k.val=dAt.getD k.val 0∧ja 1 2 4 30 k.val+2^(zw 2 4 30 (k.val:Nat)).toNat=dAt.getD (k.val+1) 0:=by decide +kernel
theorem Vq (n:Nat) : ∀ m i,i+m≤30→vz 1 2 4 30 n m i=jb n m i
 | 0,i,h=>rfl
 | m+1,i,h=>by
   rw [XW,Yr,Vq n m (i+1) (by omega)]
   obtain ⟨_,h1,h2⟩:=zaw ⟨i,by omega⟩
   have e:inS 1 2 4 30 n i↔isD n i:=by
    unfold inS isD
    dsimp only at h1 h2
    rw [h1] at h2 ⊢
    rw [h2]
   by_cases h3:isD n i
   · rw [if_pos h3,if_pos (e.2 h3)]
   · rw [if_neg h3,if_neg (fun q=>h3 (e.1 q))]
set_option maxRecDepth 100000 in
set_option maxHeartbeats 3200000 in
theorem Vy (n:Nat) (w:World) (h1:1≤n) (h2:n≤32768) :
 Calls Tryz.prog 154 #[.int .i64 (n:Nat)] w fun e w' => ∃ i,jb n 30 0=some i∧e = .returned (.tuple #[Yk i n,.bool true])∧Upd [] w w':=by
 obtain ⟨r,hr,hr30⟩:=jM n h1 h2
 have hs:zaP 1 2 4 30 n r=Yk r n:=by
  obtain ⟨e1,e2,_⟩:=zaw ⟨r,hr30⟩
  dsimp only at e1 e2
  unfold zaP Yk
  rw [e1,e2]
 have HSG:=Lib.hid (fun w'=>Wc 1 2 4 30 n r w' (by decide) (by decide) (by decide) (by decide) (by decide) zdl (by omega) (by rw [Vq n 30 0 (by omega)]; exact hr))
 rw [hs] at HSG
 unfold Yk at HSG
 have HBV:Hid (Yk r n = .agg #[.int .i64 (r:Nat),.int .i64 (dBt r:Nat),.int .i64 ((n-dAt.getD r 0:Nat):Int)]):=Lib.hid rfl
 have HR:=Lib.hid hr
 generalize dAt.getD r 0=p at *
 generalize dBt r=bb at *
 have HQ:=Lib.hid (Blk.new w [.int .i64 0,.int .i64 0,.int .i64 0] 207)
 have HU:=Lib.hid ((Upd.refl [] w).alloc (.cells #[.int .i64 0,.int .i64 0,.int .i64 0] 207))
 clear hs hr
 go_enter Tryz.func154,Tryz.ntmps154
 go_wp2_with fail
 refine (kr _).mono ?_
 rintro e w1 ⟨rfl,hU1⟩
 have HQ1:=Lib.hid (HQ.out.upd hU1 (by simp))
 have HU1:=Lib.hid (HU.out.then hU1)
 clear hU1
 go_wp2_with fail
 refine (HSG.out w1).mono ?_
 rintro e w2 ⟨rfl,hU2⟩
 have hQ2:=HQ1.out.upd hU2 (by simp)
 have HU2:=Lib.hid (HU1.out.then hU2)
 have fA:=hQ2.frz
 have cA:=hQ2.all
 have HQ2:=Lib.hid hQ2
 clear hU2 hQ2
 go_wp2
 have hB9:=((HQ2.out.set 0 (.int .i64 (r:Nat))).set 1 (.int .i64 (bb:Nat))).set 2 (.int .i64 ((n-p:Nat):Int))
 refine bodyPost_ret (ju rfl _ _ w.heap.size _ _ _ _ (.bool true) (by simp [Act.put]) (by simp [Act.put]) hB9 Tryz.underlying207 rfl (by rw [Qq]; rfl)) (by simp [Act.put]) ⟨r,HR.out,?_,?_⟩
 · rw [HBV.out]; rfl
 · exact ((HU2.out.setCell (.inr (Nat.le_refl _)) _).setCell (.inr (Nat.le_refl _)) _).setCell (.inr (Nat.le_refl _)) _
set_option maxRecDepth 100000 in
set_option maxHeartbeats 3200000 in
theorem VD (n:Nat) (w:World) (h3:3≤n) (h258:n≤258) :
 Calls Tryz.prog 153 #[.int .i64 (n:Nat)] w fun e w' => ∃ i,zP n 29 0=some i∧e = .returned (.tuple #[JY i n,.bool true])∧Upd [] w w':=by
 have HQ:=Lib.hid (Blk.new w [.int .i64 0,.int .i64 0,.int .i64 0] 207)
 have HU:=Lib.hid ((Upd.refl [] w).alloc (.cells #[.int .i64 0,.int .i64 0,.int .i64 0] 207))
 by_cases he:n=258
 · subst he
   have HLV:Hid (JY 28 258 = .agg #[.int .i64 285,.int .i64 0,.int .i64 0]):=Lib.hid rfl
   go_enter Tryz.func153,Tryz.ntmps153
   go_wp2
   have hB9:=Blk.new w [.int .i64 285,.int .i64 0,.int .i64 0] 207
   refine bodyPost_ret (ju rfl _ _ w.heap.size _ _ _ _ (.bool true) (by simp [Act.put]) (by simp [Act.put]) hB9 Tryz.underlying207 rfl (by rw [Qq]; rfl)) (by simp [Act.put]) ⟨28,zf2,?_,?_⟩
   · rw [HLV.out]
   · exact (Upd.refl [] w).alloc _
 · have hez : ¬ (n:Int)=258:=by omega
   obtain ⟨hf,hlt⟩:=zeh ⟨n,by omega⟩ h3 he
   dsimp only at hf hlt
   obtain ⟨r,hr⟩ : ∃ r,zP n 29 0=some r:=by
    cases h:zP n 29 0 with
    | none=>rw [h] at hlt; simp at hlt
    | some r=>exact ⟨r,rfl⟩
   rw [hr] at hf hlt
   have hr28:r<28:=hlt
   obtain ⟨e1,e2⟩:=zgP ⟨r,hr28⟩
   dsimp only at e1 e2
   have HSG:=Lib.hid (fun w'=>Wc 3 4 8 28 n r w' (by decide) (by decide) (by decide) (by decide) (by decide) zdk (by omega) hf)
   unfold zaP at HSG
   rw [e1,e2] at HSG
   have HLV:Hid (JY r n = .agg #[.int .i64 ((257+r:Nat):Int),.int .i64 (xC.getD r 0:Nat),.int .i64 ((n-lAt.getD r 0:Nat):Int)]):=Lib.hid rfl
   have HR:=Lib.hid hr
   generalize lAt.getD r 0=p at *
   generalize xC.getD r 0=bb at *
   have hwr:IntKind.i64.wrap ((r:Int)+257)=(r:Int)+257:=IntWalk.i64_in _ (by omega)
   clear e1 e2 hf hr hlt he
   go_enter Tryz.func153,Tryz.ntmps153
   go_wp2_with fail
   refine (ky _).mono ?_
   rintro e w1 ⟨rfl,hU1⟩
   have HQ1:=Lib.hid (HQ.out.upd hU1 (by simp))
   have HU1:=Lib.hid (HU.out.then hU1)
   clear hU1
   go_wp2_with fail
   refine (HSG.out w1).mono ?_
   rintro e w2 ⟨rfl,hU2⟩
   have hQ2:=HQ1.out.upd hU2 (by simp)
   have HU2:=Lib.hid (HU1.out.then hU2)
   have hs2:w.heap.size+1≤w2.heap.size:=by have:=HU.out.size; have:=(HQ1.out.upd hU2 (by simp)).lt; omega
   have hQ3:=hQ2.alloc (.cells #[.int .i64 (r:Nat),.int .i64 (bb:Nat),.int .i64 ((n-p:Nat):Int)] 207)
   have hS3:=Blk.new w2 [.int .i64 (r:Nat),.int .i64 (bb:Nat),.int .i64 ((n-p:Nat):Int)] 207
   have hU3:=HU2.out.alloc (.cells #[.int .i64 (r:Nat),.int .i64 (bb:Nat),.int .i64 ((n-p:Nat):Int)] 207)
   have HQ3:=Lib.hid hQ3
   have HS3:=Lib.hid hS3
   have HU3:=Lib.hid hU3
   clear hU2 hQ2 hQ3 hS3 hU3
   go_upto_region 4 with fail
   change Code.wp _ _ _ _ (w2.alloc (.cells #[.int .i64 (r:Nat),.int .i64 (bb:Nat),.int .i64 ((n-p:Nat):Int)] 207))
   generalize w2.alloc (.cells #[.int .i64 (r:Nat),.int .i64 (bb:Nat),.int .i64 ((n-p:Nat):Int)] 207)=w3 at *
   generalize w2.heap.size=s at *
   have hws:w.heap.size≠s:=by omega
   have hS4:=HS3.out.set 0 (.int .i64 ((r:Int)+257))
   have hQ4:=HQ3.out.setFar (a:=⟨s,0,none⟩) (.int .i64 ((r:Int)+257)) hws
   have HU4:=Lib.hid (HU3.out.setCell (p:=⟨s,0,none⟩) (.inr (by show w.heap.size≤s; omega)) (.int .i64 ((r:Int)+257)))
   have k0:=HS3.out.cell 0 rfl
   have kA:=hS4.all
   have kf:=HS3.out.frz 0
   have fA:=hQ4.frz
   have cA:=hQ4.all
   have HQ4:=Lib.hid hQ4
   clear hS4 hQ4
   go_wp2
   have hB9:=((HQ4.out.set 0 (.int .i64 ((r:Int)+257))).set 1 (.int .i64 (bb:Nat))).set 2 (.int .i64 ((n-p:Nat):Int))
   refine bodyPost_ret (ju rfl _ _ w.heap.size _ _ _ _ (.bool true) (by simp [Act.put]) (by simp [Act.put]) hB9 Tryz.underlying207 rfl (by rw [Qq]; rfl)) (by simp [Act.put]) ⟨r,HR.out,?_,?_⟩
   · rw [HLV.out,show ((257+r:Nat):Int)=(r:Int)+257 by omega]; rfl
   · exact ((HU4.out.setCell (.inr (Nat.le_refl _)) _).setCell (.inr (Nat.le_refl _)) _).setCell (.inr (Nat.le_refl _)) _
end Go.Proofs.YtfkcdnaghndgfaaGreatDoor
namespace Go.Proofs.YtfkcdnaghndgfaaGreatDoor
open Go.RowKit
structure Tok where
 byte:Nat
 long:Int
 back:Int
def Tok.cs (t:Tok):List Value:=[.int .u8 (t.byte:Nat),.int .i64 t.long,.int .i64 t.back]
structure TokIn (w:World) (a:Option Addr) (len:Nat) (l:List Tok):Prop where
 len:l.length=len
 cell : ∀ i (h:i<l.length),∃ b off,a=some ⟨b,off,none⟩∧(w.cell? ⟨b,off+i*3,none⟩=some (.int .u8 (l[i].byte:Nat))∧w.cell? ⟨b,off+i*3+1,none⟩=some (.int .i64 l[i].long)∧w.cell? ⟨b,off+i*3+2,none⟩=some (.int .i64 l[i].back)) ∧
  l[i].byte<256∧(-9223372036854775808≤l[i].long∧l[i].long≤9223372036854775807)∧(-9223372036854775808≤l[i].back∧l[i].back≤9223372036854775807)
theorem TokIn.upd {w w':World} {a:Option Addr} {len:Nat} {l:List Tok} {fp:List Nat} (h:TokIn w a len l) (hU:Upd fp w w') (hf : ∀ b off,a=some ⟨b,off,none⟩→b∉fp):TokIn w' a len l :=
 ⟨h.len,fun i hi=>by
  obtain ⟨b,off,e,⟨c1,c2,c3⟩,r⟩:=h.cell i hi
  have hb:b<w.heap.size:=World.block_lt_of_cell? w _ c1
  exact ⟨b,off,e,⟨(hU.at hb (hf b off e) _).trans c1,(hU.at hb (hf b off e) _).trans c2,(hU.at hb (hf b off e) _).trans c3⟩,r⟩⟩
theorem TokIn.pure {w w':World} {a:Option Addr} {len:Nat} {l:List Tok} (h:TokIn w a len l) (hU:Upd [] w w'):TokIn w' a len l:=h.upd hU (by simp)
def zdr (t:Tok) (n:Nat):Prop:=t.byte≠0∨t.long<3∨258<t.long∨t.back<1∨32768<t.back∨(n:Int)<t.back∨65000<t.long+(n:Int)
instance (t:Tok) (n:Nat):Decidable (zdr t n):=by unfold zdr; infer_instance
def zH (t:Tok):Prop:=(t.long=0∧t.back=0∧t.byte<256)∨(t.byte=0∧3≤t.long∧t.long≤258∧1≤t.back∧t.back≤32768)
end Go.Proofs.YtfkcdnaghndgfaaGreatDoor
namespace Go.Proofs.YtfkcdnaghndgfaaGreatDoor
open Go.RowKit
def xF (a:List Nat) (c:Nat):List Nat:=a.set c (a.getD c 0+1)
theorem QN (a:List Nat) (c:Nat):(xF a c).length=a.length:=by simp [xF]
theorem XG (a:List Nat) (c i:Nat) (h : ∀ x∈a,x≤i) : ∀ x∈xF a c,x≤i+1:=by
 intro x hx
 unfold xF at hx
 rcases List.mem_or_eq_of_mem_set hx with h1 | h1
 · have:=h x h1; omega
 · rw [h1,List.getD_eq_getElem?_getD]
   cases h2:a[c]? with
   | none=>simp
   | some y=>have:=h y (List.mem_of_getElem? h2); simp; omega
def qn (t:Tok):Nat:=if t.long=0 then t.byte else 257+(zP t.long.toNat 29 0).getD 0
def qM (t:Tok):Nat:=(jb t.back.toNat 30 0).getD 0
def jI (p:List Nat×List Nat) (t:Tok):List Nat×List Nat:=(xF p.1 (qn t),if t.long=0 then p.2 else xF p.2 (qM t))
def zo (l:List Tok):List Nat×List Nat:=l.foldl jI ((List.replicate 286 0).set 256 1,List.replicate 30 0)
theorem jT (l:List Tok) (t:Tok):zo (l++[t])=jI (zo l) t:=by unfold zo; rw [List.foldl_append]; rfl
structure ManyOk (p:List Nat×List Nat) (i:Nat):Prop where
 la:p.1.length=286
 lb:p.2.length=30
 ba : ∀ x∈p.1,x≤i+1
 bb : ∀ x∈p.2,x≤i+1
theorem ManyOk.step {p:List Nat×List Nat} {i:Nat} (h:ManyOk p i) (t:Tok):ManyOk (jI p t) (i+1):=by
 unfold jI
 refine ⟨by rw [QN]; exact h.la,?_,XG _ _ _ h.ba,?_⟩
 · dsimp only
   split
   · exact h.lb
   · rw [QN]; exact h.lb
 · dsimp only
   split
   · intro x hx; have:=h.bb x hx; omega
   · exact XG _ _ _ h.bb
theorem kI:zo []=((List.replicate 286 0).set 256 1,List.replicate 30 0):=rfl
theorem ManyOk.nil:ManyOk (zo []) 0:=by
 rw [kI]
 refine ⟨by rw [List.length_set,List.length_replicate],List.length_replicate,?_,?_⟩
 · intro x hx
   rcases List.mem_or_eq_of_mem_set hx with h1 | h1
   · have:=List.eq_of_mem_replicate h1; omega
   · omega
 · intro x hx
   have:=List.eq_of_mem_replicate hx
   omega
theorem qt (l:List Tok) : ∀ i,i≤l.length→ManyOk (zo (l.take i)) i
 | 0,_=>ManyOk.nil
 | i+1,h=>by
   rw [List.take_succ_eq_append_getElem (show i<l.length by omega),jT]
   exact (qt l i (by omega)).step _
theorem JV : ∀ n:Fin 259,3≤n.val→(zP n.val 29 0).getD 99<29:=by decide +kernel
def zfn (l:List Tok) (w:World) (e:Ending) (w':World):Prop := ∃ oa ob,e = .returned (.tuple #[.slice (some ⟨oa,0,none⟩) 286 286,.slice (some ⟨ob,0,none⟩) 30 30])∧Blk w' oa (zf (zo l).1) 3∧Blk w' ob (zf (zo l).2) 3∧w.heap.size≤oa∧w.heap.size≤ob∧oa≠ob∧Upd [] w w'
set_option maxRecDepth 100000 in
set_option maxHeartbeats 6400000 in
theorem WO (l:List Tok) (a:Option Addr) (n cap:Nat) (w:World) (hI:TokIn w a n l) (hn:n≤100000) (hok : ∀ t∈l,zH t) :
 Calls Tryz.prog 155 #[.slice a n cap] w fun e w'=>zfn l w e w':=by
 have HI:=Lib.hid hI
 have HLN:=Lib.hid hI.len
 have HOK:=Lib.hid hok
 have HMO:=Lib.hid (qt l)
 clear hI hok
 obtain ⟨ZA,hZA⟩ : ∃ Z,List.replicate 286 0=Z:=⟨_,rfl⟩
 obtain ⟨ZB,hZB⟩ : ∃ Z,List.replicate 30 0=Z:=⟨_,rfl⟩
 have hm1 : ∀ w,(Instr.makeSlice 98 (.int .i64 286) (.int .i64 286)).run Tryz.prog w = .ok (.slice (some ⟨w.heap.size,0,none⟩) 286 286) (w.alloc (.cells (zf ZA).toArray 3)):=by rw [← hZA]; exact zcq 286 (by omega)
 have hm2 : ∀ w,(Instr.makeSlice 98 (.int .i64 30) (.int .i64 30)).run Tryz.prog w = .ok (.slice (some ⟨w.heap.size,0,none⟩) 30 30) (w.alloc (.cells (zf ZB).toArray 3)):=by rw [← hZB]; exact zcq 30 (by omega)
 have HZA:=Lib.hid hZA
 have HZB:=Lib.hid hZB
 clear hZA hZB
 go_enter Tryz.func155,Tryz.ntmps155
 go_upto_region 1 with fail
 go_cut [4,5] (fun s4 s5 wx => ∃ oa ob,s4 = .slice (some ⟨oa,0,none⟩) 286 286∧s5 = .slice (some ⟨ob,0,none⟩) 30 30∧Hid (Blk wx oa (zf ZA) 3)∧Hid (Blk wx ob (zf ZB) 3)∧Hid (w.heap.size≤oa∧w.heap.size≤ob∧oa≠ob)∧Hid (Upd [] w wx))
 case first =>
  go_region
  all_goals go_wp2
  all_goals go_meet
  · have h2:=Blk.new (w.alloc (.cells (zf ZA).toArray 3)) (zf ZB) 3
    rw [World.size_alloc] at h2
    exact ⟨_,_,rfl,rfl,Lib.hid ((Blk.new w (zf ZA) 3).alloc _).drew,Lib.hid h2.drew,Lib.hid ⟨Nat.le_refl _,Nat.le_succ _,by omega⟩,Lib.hid (((Upd.refl [] w).alloc _).alloc _).drew⟩
  · have h2:=Blk.new (w.alloc (.cells (zf ZB).toArray 3)) (zf ZA) 3
    rw [World.size_alloc] at h2
    exact ⟨_,_,rfl,rfl,Lib.hid h2.drew,Lib.hid ((Blk.new w (zf ZB) 3).alloc _).drew,Lib.hid ⟨Nat.le_succ _,Nat.le_refl _,by omega⟩,Lib.hid (((Upd.refl [] w).alloc _).alloc _).drew⟩
 case rest =>
  obtain ⟨oa,ob,rfl,rfl,HBA,HBB,HNE,HUx⟩:=hcut
  have hne:=HNE.out.2.2
  have c256:=HBA.out.cell 256 (zt ZA 256 0 (by rw [← HZA.out,List.getElem?_replicate]; rfl))
  have f256:=HBA.out.frz 256
  have HA1:Hid (Blk (wc.setCell ⟨oa,256,none⟩ (.int .i64 1)) oa (zf (zo (l.take 0)).1) 3):=Lib.hid (by
   have h:=HBA.out.set 256 (.int .i64 1)
   rw [List.take_zero,kI,HZA.out]
   rw [xc]
   exact h)
  have HB1:Hid (Blk (wc.setCell ⟨oa,256,none⟩ (.int .i64 1)) ob (zf (zo (l.take 0)).2) 3):=Lib.hid (by
   rw [List.take_zero,kI,HZB.out]
   exact HBB.out.setFar (a:=⟨oa,256,none⟩) _ (Ne.symm hne))
  have HU1:Hid (Upd [] w (wc.setCell ⟨oa,256,none⟩ (.int .i64 1))):=Lib.hid (HUx.out.setCell (.inr HNE.out.1) _)
  clear HBA HBB HUx hm1 hm2
  go_wp2
  generalize wc.setCell ⟨oa,256,none⟩ (.int .i64 1)=w1 at *
  clear c256 f256
  go_loopg [18] 200000 (fun gg s18 wr => ∃ i:Nat,i≤n∧gg=200000-i∧s18 = .int .i64 (i:Nat)∧Hid (Blk wr oa (zf (zo (l.take i)).1) 3)∧Hid (Blk wr ob (zf (zo (l.take i)).2) 3)∧Hid (Upd [] w wr))
  case atStart=>exact ⟨0,by omega,by omega,rfl,HA1,HB1,HU1⟩
  case round =>
   obtain ⟨i,hin,rfl,rfl,HA,HB,HU⟩:=hrel
   by_cases hc:i<n
   · have hcz:(i:Int)<(n:Int):=by omega
     have hil:i<l.length:=by rw [HLN.out]; exact hc
     have hw1:IntKind.i64.wrap ((i:Int)+1)=((i+1:Nat):Int):=by rw [IntWalk.i64_in _ (by omega)]; rfl
     obtain ⟨b,off,rfl,⟨hc1,hc2,hc3⟩,r1,r2,r3⟩:=(HI.out.pure HU.out).cell i hil
     have HST:Hid (zo (l.take (i+1))=jI (zo (l.take i)) l[i]):=Lib.hid (by rw [List.take_succ_eq_append_getElem hil,jT])
     have hot:=HOK.out l[i] (List.getElem_mem hil)
     have HMk:=Lib.hid (HMO.out i (by omega))
     generalize l[i]=t at *
     generalize zo (l.take i)=p at *
     obtain ⟨pa,pb⟩:=p
     obtain ⟨tb,tl,tk⟩:=t
     dsimp only at hc1 hc2 hc3 r1 r2 r3
     have hT4:=Blk.new wr [.int .u8 (tb:Nat),.int .i64 tl,.int .i64 tk] 130
     have hU4:=HU.out.alloc (.cells #[.int .u8 (tb:Nat),.int .i64 tl,.int .i64 tk] 130)
     have hA4:=HA.out.alloc (.cells #[.int .u8 (tb:Nat),.int .i64 tl,.int .i64 tk] 130)
     have hB4:=HB.out.alloc (.cells #[.int .u8 (tb:Nat),.int .i64 tl,.int .i64 tk] 130)
     have hog:oa<wr.heap.size∧ob<wr.heap.size:=⟨HA.out.lt,HB.out.lt⟩
     clear hil HA HB HU
     go_upto_region 6 with fail
     change Code.wp _ _ _ _ (wr.alloc (.cells #[.int .u8 (tb:Nat),.int .i64 tl,.int .i64 tk] 130))
     generalize wr.alloc (.cells #[.int .u8 (tb:Nat),.int .i64 tl,.int .i64 tk] 130)=w4 at *
     generalize wr.heap.size=g at *
     have tA:=hT4.all
     have t2:=hT4.cell 2 rfl
     have HU4:=Lib.hid hU4
     have HT4:=Lib.hid hT4
     have HA4:=Lib.hid hA4
     have HB4:=Lib.hid hB4
     clear hT4 hU4 hA4 hB4 hc1 hc2 hc3
     have hgu:w.heap.size≤oa∧w.heap.size≤ob:=⟨HNE.out.1,HNE.out.2.1⟩
     have hla:=HMk.out.la
     have hlb:=HMk.out.lb
     have hba:=HMk.out.ba
     have hbb:=HMk.out.bb
     dsimp only at hla hlb hba hbb
     by_cases h0:tl=0
     · have hb256:tb<286:=by unfold zH at hot; dsimp only at hot; omega
       have hcl:qn ⟨tb,tl,tk⟩=tb:=by unfold qn; rw [if_pos h0]
       have hS2:jI (pa,pb) ⟨tb,tl,tk⟩=(xF pa tb,pb):=by unfold jI; rw [hcl]; dsimp only; rw [if_pos h0]
       have hgt:pa[tb]? =some (pa.getD tb 0):=by rw [List.getD_eq_getElem?_getD,List.getElem?_eq_getElem (by omega)]; rfl
       have hle:pa.getD tb 0≤i+1:=hba _ (List.mem_of_getElem? hgt)
       have ca:=HA4.out.cell tb (zt pa tb _ hgt)
       have fa:=HA4.out.frz tb
       have HAd:Hid (xF pa tb=pa.set tb (pa.getD tb 0+1)):=Lib.hid rfl
       generalize pa.getD tb 0=y at *
       have hwy:IntKind.i64.wrap ((y:Int)+1)=((y+1:Nat):Int):=by rw [IntWalk.i64_in _ (by omega)]; rfl
       have htz:(tb:Int)<286:=by omega
       have HA5:Hid (Blk (w4.setCell ⟨oa,tb,none⟩ (.int .i64 ((y+1:Nat):Int))) oa (zf (zo (l.take (i+1))).1) 3):=Lib.hid (by
        rw [HST.out,hS2]
        dsimp only
        rw [HAd.out,xc]
        exact HA4.out.set tb _)
       have HB5:Hid (Blk (w4.setCell ⟨oa,tb,none⟩ (.int .i64 ((y+1:Nat):Int))) ob (zf (zo (l.take (i+1))).2) 3):=Lib.hid (by
        rw [HST.out,hS2]
        exact HB4.out.setFar (a:=⟨oa,tb,none⟩) _ (Ne.symm hne))
       have HU5:=Lib.hid (HU4.out.setCell (p:=⟨oa,tb,none⟩) (.inr hgu.1) (.int .i64 ((y+1:Nat):Int)))
       subst h0
       clear hot hla hlb hba hbb hcl hS2 hgt HMk HT4 HA4 HB4 HU4
       go_wp2
       go_roundg (200000-(i+1))
       · exact ⟨i+1,by omega,by first | rfl | omega,by first | rfl | go_num,HA5,HB5,HU5⟩
       · omega
     · have hot2:3≤tl∧tl≤258∧1≤tk∧tk≤32768:=by unfold zH at hot; dsimp only at hot; omega
       obtain ⟨L,rfl⟩ : ∃ L:Nat,tl=(L:Int):=⟨tl.toNat,by omega⟩
       obtain ⟨K,rfl⟩ : ∃ K:Nat,tk=(K:Int):=⟨tk.toNat,by omega⟩
       have HSL:=Lib.hid (fun w'=>VD L w' (by omega) (by omega))
       have HSB:=Lib.hid (fun w'=>Vy K w' (by omega) (by omega))
       have hS2:jI (pa,pb) ⟨tb,(L:Int),(K:Int)⟩=(xF pa (257+(zP L 29 0).getD 0),xF pb ((jb K 30 0).getD 0)):=by
        unfold jI qn qM
        dsimp only
        rw [if_neg h0,if_neg h0,Int.toNat_natCast,Int.toNat_natCast]
       have HS2:=Lib.hid hS2
       have hL29:=JV ⟨L,by omega⟩ (by omega:3≤L)
       dsimp only at hL29
       have h0b:((L:Int)==0)=false:=by simpa using h0
       have hK:1≤K∧K≤32768:=by omega
       clear hS2 hot hot2
       go_wp2_with fail
       refine (HSL.out _).mono ?_
       rintro e w5 ⟨x,hx,rfl,hU5⟩
       rw [hx] at hL29
       have hx29:x<29:=hL29
       have HX:=Lib.hid hx
       have HT5:=Lib.hid (HT4.out.upd hU5 (by simp))
       have HA5:=Lib.hid (HA4.out.upd hU5 (by simp))
       have HB5:=Lib.hid (HB4.out.upd hU5 (by simp))
       have HU5:=Lib.hid (HU4.out.then hU5)
       have hs5:=hU5.size
       have hg4:=HT4.out.lt
       clear hx hL29 hU5 HT4 HA4 HB4 HU4 tA t2 HSL
       unfold JY
       generalize xC.getD x 0=xb at *
       generalize L-lAt.getD x 0=xm at *
       obtain ⟨c,hcc⟩ : ∃ c,257+x=c:=⟨_,rfl⟩
       rw [hcc]
       have HCC:=Lib.hid hcc
       have hc286:c<286:=by omega
       clear hcc
       have hT6:=HT5.out.alloc (.cells #[.int .i64 (c:Nat),.int .i64 (xb:Nat),.int .i64 (xm:Nat)] 207)
       have hA6:=HA5.out.alloc (.cells #[.int .i64 (c:Nat),.int .i64 (xb:Nat),.int .i64 (xm:Nat)] 207)
       have hB6:=HB5.out.alloc (.cells #[.int .i64 (c:Nat),.int .i64 (xb:Nat),.int .i64 (xm:Nat)] 207)
       have hU6:=HU5.out.alloc (.cells #[.int .i64 (c:Nat),.int .i64 (xb:Nat),.int .i64 (xm:Nat)] 207)
       have hQ6:=Blk.new w5 [.int .i64 (c:Nat),.int .i64 (xb:Nat),.int .i64 (xm:Nat)] 207
       have hs6:(w5.alloc (.cells #[.int .i64 (c:Nat),.int .i64 (xb:Nat),.int .i64 (xm:Nat)] 207)).heap.size=w5.heap.size+1:=World.size_alloc _ _
       clear HT5 HA5 HB5 HU5
       go_upto_region 9 with fail
       change Code.wp _ _ _ _ (w5.alloc (.cells #[.int .i64 (c:Nat),.int .i64 (xb:Nat),.int .i64 (xm:Nat)] 207))
       generalize w5.alloc (.cells #[.int .i64 (c:Nat),.int .i64 (xb:Nat),.int .i64 (xm:Nat)] 207)=w6 at *
       generalize w5.heap.size=s1 at *
       have t2:=hT6.cell 2 rfl
       have HA6:=Lib.hid hA6
       have HB6:=Lib.hid hB6
       have HU6:=Lib.hid hU6
       have HQ6:=Lib.hid hQ6
       clear hT6 hA6 hB6 hU6 hQ6
       go_wp2_with fail
       refine (HSB.out _).mono ?_
       rintro e w7 ⟨z,hz,rfl,hU7⟩
       have HZ:=Lib.hid hz
       have hz30:z<30:=by
        obtain ⟨r,h1,h2⟩:=jM K hK.1 hK.2
        rw [hz] at h1
        cases h1
        exact h2
       have HA7:=Lib.hid (HA6.out.upd hU7 (by simp))
       have HB7:=Lib.hid (HB6.out.upd hU7 (by simp))
       have HU7:=Lib.hid (HU6.out.then hU7)
       have HQ7:=Lib.hid (HQ6.out.upd hU7 (by simp))
       have hs7:=hU7.size
       clear hz hU7 HA6 HB6 HU6 HQ6 t2 HSB
       unfold Yk
       generalize dBt z=zb at *
       generalize K-dAt.getD z 0=zm at *
       have hA8:=HA7.out.alloc (.cells #[.int .i64 (z:Nat),.int .i64 (zb:Nat),.int .i64 (zm:Nat)] 207)
       have hB8:=HB7.out.alloc (.cells #[.int .i64 (z:Nat),.int .i64 (zb:Nat),.int .i64 (zm:Nat)] 207)
       have hU8:=HU7.out.alloc (.cells #[.int .i64 (z:Nat),.int .i64 (zb:Nat),.int .i64 (zm:Nat)] 207)
       have hQ8:=HQ7.out.alloc (.cells #[.int .i64 (z:Nat),.int .i64 (zb:Nat),.int .i64 (zm:Nat)] 207)
       have hR8:=Blk.new w7 [.int .i64 (z:Nat),.int .i64 (zb:Nat),.int .i64 (zm:Nat)] 207
       clear HA7 HB7 HU7 HQ7
       go_upto_region 10 with fail
       change Code.wp _ _ _ _ (w7.alloc (.cells #[.int .i64 (z:Nat),.int .i64 (zb:Nat),.int .i64 (zm:Nat)] 207))
       generalize w7.alloc (.cells #[.int .i64 (z:Nat),.int .i64 (zb:Nat),.int .i64 (zm:Nat)] 207)=w8 at *
       generalize w7.heap.size=s2 at *
       have hgt:pa[c]? =some (pa.getD c 0):=by rw [List.getD_eq_getElem?_getD,List.getElem?_eq_getElem (by omega)]; rfl
       have hgb:pb[z]? =some (pb.getD z 0):=by rw [List.getD_eq_getElem?_getD,List.getElem?_eq_getElem (by omega)]; rfl
       have hle:pa.getD c 0≤i+1:=hba _ (List.mem_of_getElem? hgt)
       have hlz:pb.getD z 0≤i+1:=hbb _ (List.mem_of_getElem? hgb)
       have ca:=hA8.cell c (zt pa c _ hgt)
       have fa:=hA8.frz c
       have q0:=hQ8.cell 0 rfl
       have HAd:Hid (xF pa c=pa.set c (pa.getD c 0+1)):=Lib.hid rfl
       have HBd:Hid (xF pb z=pb.set z (pb.getD z 0+1)):=Lib.hid rfl
       have HS3:Hid (zo (l.take (i+1))=(xF pa c,xF pb z)):=Lib.hid (by rw [HST.out,HS2.out,HX.out,HZ.out,← HCC.out]; rfl)
       have hbz:=zt pb z _ hgb
       generalize pa.getD c 0=y at *
       generalize pb.getD z 0=yb at *
       have hwy:IntKind.i64.wrap ((y:Int)+1)=(y:Int)+1:=IntWalk.i64_in _ (by omega)
       have hwb:IntKind.i64.wrap ((yb:Int)+1)=(yb:Int)+1:=IntWalk.i64_in _ (by omega)
       have hcz2:(c:Int)<286:=by omega
       have hzz:(z:Int)<30:=by omega
       have hA9:=hA8.set c (.int .i64 ((y:Int)+1))
       have hB9:=hB8.setFar (a:=⟨oa,c,none⟩) (.int .i64 ((y:Int)+1)) (Ne.symm hne)
       have hR9:=hR8.setFar (a:=⟨oa,c,none⟩) (.int .i64 ((y:Int)+1)) (by show s2≠oa; omega)
       have r0:=hR9.cell 0 rfl
       have cb:=hB9.cell z hbz
       have fb:=hB9.frz z
       have HA10:Hid (Blk ((w8.setCell ⟨oa,c,none⟩ (.int .i64 ((y:Int)+1))).setCell ⟨ob,z,none⟩ (.int .i64 ((yb:Int)+1))) oa (zf (zo (l.take (i+1))).1) 3):=Lib.hid (by
        rw [HS3.out]
        dsimp only
        rw [HAd.out,xc]
        exact hA9.setFar (a:=⟨ob,z,none⟩) _ hne)
       have HB10:Hid (Blk ((w8.setCell ⟨oa,c,none⟩ (.int .i64 ((y:Int)+1))).setCell ⟨ob,z,none⟩ (.int .i64 ((yb:Int)+1))) ob (zf (zo (l.take (i+1))).2) 3):=Lib.hid (by
        rw [HS3.out]
        dsimp only
        rw [HBd.out,xc]
        exact hB9.set z _)
       have HU10:=Lib.hid ((hU8.setCell (p:=⟨oa,c,none⟩) (.inr hgu.1) (.int .i64 ((y:Int)+1))).setCell (p:=⟨ob,z,none⟩) (.inr hgu.2) (.int .i64 ((yb:Int)+1)))
       clear hA8 hB8 hU8 hQ8 hR8 hA9 hB9 hR9 hbz hgt hgb hla hlb hba hbb HMk
       go_wp2
       go_roundg (200000-(i+1))
       · exact ⟨i+1,by omega,by first | rfl | omega,by first | rfl | go_num,HA10,HB10,HU10⟩
       · omega
   · have hcz : ¬ (i:Int)<(n:Int):=by omega
     obtain rfl:i=n:=by omega
     have htk:l.take i=l:=List.take_of_length_le (by rw [HLN.out]; exact Nat.le_refl _)
     rw [htk] at HA HB
     clear htk
     go_wp2
     go_returns
     exact ⟨oa,ob,rfl,HA.out,HB.out,HNE.out.1,HNE.out.2.1,HNE.out.2.2,HU.out⟩
end Go.Proofs.YtfkcdnaghndgfaaGreatDoor
namespace Go.Proofs.YtfkcdnaghndgfaaGreatDoor
open Go.RowKit
structure StpIn (w:World) (a:Option Addr) (len:Nat) (l:List StpD):Prop where
 len:l.length=len
 cell : ∀ i (h:i<l.length),∃ b off,a=some ⟨b,off,none⟩∧(w.cell? ⟨b,off+i*3,none⟩=some (.int .i64 (l[i].sym:Nat))∧w.cell? ⟨b,off+i*3+1,none⟩=some (.int .i64 (l[i].bits:Nat))∧w.cell? ⟨b,off+i*3+2,none⟩=some (.int .i64 (l[i].more:Nat)))
theorem StpIn.pure {w w':World} {a:Option Addr} {len:Nat} {l:List StpD} (h:StpIn w a len l) (hU:Upd [] w w'):StpIn w' a len l :=
 ⟨h.len,fun i hi=>by
  obtain ⟨b,off,e,c1,c2,c3⟩:=h.cell i hi
  have hb:b<w.heap.size:=World.block_lt_of_cell? w _ c1
  exact ⟨b,off,e,(hU.at hb (by simp) _).trans c1,(hU.at hb (by simp) _).trans c2,(hU.at hb (by simp) _).trans c3⟩⟩
theorem kY : ∀ (l:List StpD) (i:Nat) (h:i<l.length) (j:Nat),j<3→(jj l)[i*3+j]? =l[i].cs[j]?
 | [],i,h,j,_=>absurd h (by simp)
 | s::l,0,h,j,hj=>by
   rw [Nat.zero_mul,Nat.zero_add]
   unfold jj
   rw [List.flatMap_cons,List.getElem?_append_left (by simp [StpD.cs]; omega)]
   rfl
 | s::l,i+1,h,j,hj=>by
   have ih:=kY l i (by simpa using h) j hj
   unfold jj at *
   rw [List.flatMap_cons,List.getElem?_append_right (by simp [StpD.cs]; omega)]
   rw [show (i+1)*3+j-s.cs.length=i*3+j by simp [StpD.cs]; omega,ih]
   rfl
theorem StpIn.row {w:World} {a:Option Addr} {n c:Nat} {l:List StpD} {T:TypeId} (h:Row w T 3 (.slice a n c) n (jj l)) (hl:l.length=n):StpIn w a n l :=
 ⟨hl,fun i hi=>by
  obtain ⟨g,cc,e,_,_⟩:=h.form' (by omega)
  cases e
  refine ⟨g,0,rfl,?_,?_,?_⟩
  · rw [Nat.zero_add]; exact h.cell (i*3) (by have:=kY l i hi 0 (by omega); rw [Nat.add_zero] at this; rw [this]; rfl)
  · rw [Nat.zero_add]; exact h.cell (i*3+1) (by rw [kY l i hi 1 (by omega)]; rfl)
  · rw [Nat.zero_add]; exact h.cell (i*3+2) (by rw [kY l i hi 2 (by omega)]; rfl)⟩
def YD (c:List Nat) (s:StpD):List Nat:=if s.sym≤18 then xF c s.sym else c
def zB (l:List StpD):List Nat:=l.foldl YD (List.replicate 19 0)
theorem vQ (l:List StpD) (s:StpD):zB (l++[s])=YD (zB l) s:=by unfold zB; rw [List.foldl_append]; rfl
theorem zft (c:List Nat) (s:StpD):(YD c s).length=c.length:=by unfold YD; split; exact QN _ _; rfl
theorem qP (l:List StpD) : ∀ i,i≤l.length→(zB (l.take i)).length=19 ∧ ∀ x∈zB (l.take i),x≤i
 | 0,_=>⟨List.length_replicate,fun x hx=>by have:=List.eq_of_mem_replicate (show x∈List.replicate 19 0 from hx); omega⟩
 | i+1,h=>by
   obtain ⟨h1,h2⟩:=qP l i (by omega)
   rw [List.take_succ_eq_append_getElem (show i<l.length by omega),vQ]
   refine ⟨by rw [zft,h1],?_⟩
   unfold YD
   split
   · exact XG _ _ _ h2
   · intro x hx; have:=h2 x hx; omega
theorem ziq:(Tryz.prog.info? 212).map (·.size)=some 19:=by kernel_rfl
def zje (l:List StpD) (w:World) (e:Ending) (w':World):Prop:=e = .returned (.agg (zf (zB l)).toArray)∧Upd [] w w'
set_option maxRecDepth 100000 in
set_option maxHeartbeats 6400000 in
theorem KI (l:List StpD) (a:Option Addr) (n cap:Nat) (w:World) (hI:StpIn w a n l) (hn:n≤100000) :
 Calls Tryz.prog 159 #[.slice a n cap] w fun e w'=>zje l w e w':=by
 have HI:=Lib.hid hI
 have HLN:=Lib.hid hI.len
 have HCO:=Lib.hid (qP l)
 clear hI
 have HB0:Hid (Blk (w.alloc (.cells (zf (zB (l.take 0))).toArray 212)) w.heap.size (zf (zB (l.take 0))) 212):=Lib.hid (Blk.new w _ _)
 have HU0:Hid (Upd [] w (w.alloc (.cells (zf (zB (l.take 0))).toArray 212))):=Lib.hid ((Upd.refl [] w).alloc _)
 go_enter Tryz.func159,Tryz.ntmps159
 go_upto_region 1 with fail
 change Code.wp _ _ _ _ (w.alloc (.cells (zf (zB (l.take 0))).toArray 212))
 generalize w.alloc (.cells (zf (zB (l.take 0))).toArray 212)=w1 at *
 generalize hg:w.heap.size=g at *
 have HG:=Lib.hid hg
 clear hg
 go_wp2
 go_loopg [7] 200000 (fun gg s7 wr => ∃ i:Nat,i≤n∧gg=200000-i∧s7 = .int .i64 (i:Nat)∧Hid (Blk wr g (zf (zB (l.take i))) 212)∧Hid (Upd [] w wr))
 case atStart=>exact ⟨0,by omega,by omega,rfl,HB0,HU0⟩
 case round =>
  obtain ⟨i,hin,rfl,rfl,HB,HU⟩:=hrel
  by_cases hc:i<n
  · have hcz:(i:Int)<(n:Int):=by omega
    have hil:i<l.length:=by rw [HLN.out]; exact hc
    have hw1:IntKind.i64.wrap ((i:Int)+1)=((i+1:Nat):Int):=by rw [IntWalk.i64_in _ (by omega)]; rfl
    obtain ⟨b,off,rfl,hc1,hc2,hc3⟩:=(HI.out.pure HU.out).cell i hil
    have HST:Hid (zB (l.take (i+1))=YD (zB (l.take i)) l[i]):=Lib.hid (by rw [List.take_succ_eq_append_getElem hil,vQ])
    obtain ⟨hlc,hbc⟩:=HCO.out i (by omega)
    generalize l[i]=s at *
    generalize zB (l.take i)=c at *
    obtain ⟨sy,sb,sm⟩:=s
    dsimp only at hc1 hc2 hc3
    have hT4:=Blk.new wr [.int .i64 (sy:Nat),.int .i64 (sb:Nat),.int .i64 (sm:Nat)] 217
    have hB4:=HB.out.alloc (.cells #[.int .i64 (sy:Nat),.int .i64 (sb:Nat),.int .i64 (sm:Nat)] 217)
    have hU4:=HU.out.alloc (.cells #[.int .i64 (sy:Nat),.int .i64 (sb:Nat),.int .i64 (sm:Nat)] 217)
    clear hil HB HU
    go_upto_region 4 with fail
    change Code.wp _ _ _ _ (wr.alloc (.cells #[.int .i64 (sy:Nat),.int .i64 (sb:Nat),.int .i64 (sm:Nat)] 217))
    generalize wr.alloc (.cells #[.int .i64 (sy:Nat),.int .i64 (sb:Nat),.int .i64 (sm:Nat)] 217)=w4 at *
    generalize wr.heap.size=q at *
    have t0:=hT4.cell 0 rfl
    have HB4:=Lib.hid hB4
    have HU4:=Lib.hid hU4
    clear hT4 hB4 hU4 hc1 hc2 hc3
    by_cases h18:sy≤18
    · have h18z:(sy:Int)≤18:=by omega
      have hgt:c[sy]? =some (c.getD sy 0):=by rw [List.getD_eq_getElem?_getD,List.getElem?_eq_getElem (by omega)]; rfl
      have hle:c.getD sy 0≤i:=hbc _ (List.mem_of_getElem? hgt)
      have ca:=HB4.out.cell sy (zt c sy _ hgt)
      have fa:=HB4.out.frz sy
      have HAd:Hid (YD c ⟨sy,sb,sm⟩=c.set sy (c.getD sy 0+1)):=Lib.hid (by unfold YD; rw [if_pos h18]; rfl)
      generalize c.getD sy 0=y at *
      have hwy:IntKind.i64.wrap ((y:Int)+1)=((y+1:Nat):Int):=by rw [IntWalk.i64_in _ (by omega)]; rfl
      have h19:(sy:Int)<19:=by omega
      have HB5:Hid (Blk (w4.setCell ⟨g,sy,none⟩ (.int .i64 ((y+1:Nat):Int))) g (zf (zB (l.take (i+1)))) 212):=Lib.hid (by
       rw [HST.out,HAd.out,xc]
       exact HB4.out.set sy _)
      have HU5:=Lib.hid (HU4.out.setCell (p:=⟨g,sy,none⟩) (.inr (by have:=HG.out; show w.heap.size≤g; omega)) (.int .i64 ((y+1:Nat):Int)))
      clear hgt hlc hbc HB4 HU4
      go_wp2
      go_roundg (200000-(i+1))
      · exact ⟨i+1,by omega,by first | rfl | omega,by first | rfl | go_num,HB5,HU5⟩
      · omega
    · have h18z : ¬ (sy:Int)≤18:=by omega
      have HB5:Hid (Blk w4 g (zf (zB (l.take (i+1)))) 212):=Lib.hid (by
       rw [HST.out,YD,if_neg h18]
       exact HB4.out)
      clear hlc hbc HB4
      go_wp2
      go_roundg (200000-(i+1))
      · exact ⟨i+1,by omega,by first | rfl | omega,by first | rfl | go_num,HB5,HU4⟩
      · omega
  · have hcz : ¬ (i:Int)<(n:Int):=by omega
    obtain rfl:i=n:=by omega
    have hl19:=(HCO.out i (by rw [HLN.out]; exact Nat.le_refl _)).1
    have htk:l.take i=l:=List.take_of_length_le (by rw [HLN.out]; exact Nat.le_refl _)
    rw [htk] at HB hl19
    clear htk
    have hB:=HB.out
    have HL19:Hid ((zf (zB l)).length=19):=Lib.hid (by rw [zl,hl19])
    clear HB hl19
    go_wp2_with (first
     | (refine zr rfl 212 _ rfl g rfl 212 _ hB _ Tryz.underlying212 rfl (by rw [HL19.out]; kernel_rfl) ?_)
     | (refine zs rfl 212 _ _ rfl g rfl _ rfl 212 _ hB (by rw [HL19.out]; kernel_rfl) rfl (yZ _) ?_; intro w2 hB3 hU2))
    exact bodyPost_ret (results_cell_row rfl _ _ _ _ _ _ _ rfl hB3 Tryz.underlying212 rfl (by rw [ziq]; simp [HL19.out])) rfl ⟨rfl,HU.out.trans hU2 (fun k hk=>by simp at hk; right; have:=HG.out; omega)⟩
end Go.Proofs.YtfkcdnaghndgfaaGreatDoor
