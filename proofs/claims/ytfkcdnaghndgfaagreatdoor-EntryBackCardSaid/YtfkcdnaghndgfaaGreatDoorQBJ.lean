/- Package symbol: sign, Long, Back: walks. -/
import Derived.Test.YtfkcdnaghndgfaaGreatDoorQAI
import Derived.Test.YtfkcdnaghndgfaaGreatDoorQAX
import Derived.Test.YtfkcdnaghndgfaaGreatDoorQBE
import Derived.Test.YtfkcdnaghndgfaaGreatDoorQAA
set_option linter.unusedVariables false
set_option linter.unusedSimpArgs false
set_option linter.unusedSectionVars false
namespace Go.Proofs.YtfkcdnaghndgfaaGreatDoor
open Go.RowKit
theorem jj {P:Program} {fn:Func} {p u:Tmp} {ty:TypeId} (h:fn.results = #[.cell p ty,.tmp u]) (tmps:Array Value) (w:World) (g:Nat) (t:TypeId) (cs:Array Value) (fr:Nat×Nat) (d:TypeDesc) (v:Value)
 (hp:tmps.getD p undef = .pointer (some ⟨g,0,none⟩)) (hv:tmps.getD u undef=v) (hg:w.heap[g]? =some (.cells cs t fr))
 (hu:P.underlying ty=some d) (hd:(match d with | .struct _ | .array _ _=>true | _=>false)=true) (hi:(P.info? ty).map (·.size)=some cs.size) :
 (results fn tmps).run P w = .ok (.tuple #[.agg cs,v]) w:=by
 rw [results_cell_tmp h,hp,hv]
 simp [asAddr,run_loadVar_row w g t ty cs fr d hg hu hd hi,Result.andThen]
theorem Qd:(Tryz.prog.info? 207).map (·.size)=some 3:=by kernel_rfl
def inS (B G F M n k:Nat):Prop:=qZ B G F M k≤n∧n<qZ B G F M k+2^(zA G F M (k:Nat)).toNat
instance (B G F M n k:Nat):Decidable (inS B G F M n k):=by unfold inS; infer_instance
def vB (B G F M n:Nat):Nat→Nat→Option Nat
 | 0,_=>none
 | m+1,i=>if inS B G F M n i then some i else vB B G F M n m (i+1)
theorem Yq (B G F M n m i:Nat):vB B G F M n (m+1) i=if inS B G F M n i then some i else vB B G F M n m (i+1):=rfl
theorem zbO (B G F M n i:Nat):vB B G F M n 0 i=none:=rfl
def Wk (B G F M n k:Nat):Value := .agg #[.int .i64 (k:Nat),.int .i64 ((zA G F M (k:Nat)).toNat:Nat),.int .i64 ((n-qZ B G F M k:Nat):Int)]
set_option maxRecDepth 100000 in
set_option maxHeartbeats 3200000 in
theorem zaN (B G F M n r:Nat) (w:World) (hG:1≤G) (hG2:G≤100) (hF:F≤100) (hM:M≤100) (hB:B≤100) (hb : ∀ j:Nat,j<M→zA G F M (j:Nat)≤13) (hn:n≤1000000)
 (hr:vB B G F M n M 0=some r):Calls Tryz.prog 188 #[qB B G F M,.int .i64 (n:Nat)] w fun e w'=>e = .returned (.tuple #[Wk B G F M n r,.bool true])∧Upd [] w w':=by
 have HBT:=Lib.hid (fun j w'=>jB B G F M j w' hG hG2 hF hM)
 have HBG:=Lib.hid (fun k w' (hk:k≤M)=>Zq B G F M k w' hG hG2 hF hM hB hb hk)
 have HBD:=Lib.hid hb
 have HLE:=Lib.hid (VS B G F M hb)
 have HR:=Lib.hid hr
 unfold qB at HBT HBG ⊢
 have hU:=((Upd.refl [] w).alloc (.cells #[.int .i64 (B:Nat),.int .i64 (G:Nat),.int .i64 (F:Nat),.int .i64 (M:Nat)] 233)).alloc (.cells #[.int .i64 0,.int .i64 0,.int .i64 0] 207)
 have hP:=(Blk.new w [.int .i64 (B:Nat),.int .i64 (G:Nat),.int .i64 (F:Nat),.int .i64 (M:Nat)] 233).alloc (.cells #[.int .i64 0,.int .i64 0,.int .i64 0] 207)
 have hQ:=Blk.new (w.alloc (.cells #[.int .i64 (B:Nat),.int .i64 (G:Nat),.int .i64 (F:Nat),.int .i64 (M:Nat)] 233)) [.int .i64 0,.int .i64 0,.int .i64 0] 207
 rw [World.size_alloc] at hQ
 clear hb hr
 go_enter Tryz.func188,Tryz.ntmps188
 go_wp2
 have HU:=Lib.hid hU
 have HP:=Lib.hid hP
 have HQ:=Lib.hid hQ
 clear hU hP hQ
 change Code.wp _ _ _ _ ((w.alloc (.cells #[.int .i64 (B:Nat),.int .i64 (G:Nat),.int .i64 (F:Nat),.int .i64 (M:Nat)] 233)).alloc (.cells #[.int .i64 0,.int .i64 0,.int .i64 0] 207))
 generalize (w.alloc (.cells #[.int .i64 (B:Nat),.int .i64 (G:Nat),.int .i64 (F:Nat),.int .i64 (M:Nat)] 233)).alloc (.cells #[.int .i64 0,.int .i64 0,.int .i64 0] 207)=w2 at *
 generalize hp0:w.heap.size=p at *
 have HP0:=Lib.hid hp0
 clear hp0
 go_loopg [10] 100 (fun g s10 wr => ∃ i,i≤M∧g=100-i∧s10 = .int .i64 (i:Nat)∧Hid (vB B G F M n (M-i) i=some r)∧Hid (Upd [] w wr)∧Hid (Blk wr p [.int .i64 (B:Nat),.int .i64 (G:Nat),.int .i64 (F:Nat),.int .i64 (M:Nat)] 233)∧Hid (Blk wr (p+1) [.int .i64 0,.int .i64 0,.int .i64 0] 207))
 case atStart=>exact ⟨0,by omega,by omega,rfl,HR,HU,HP,HQ⟩
 case round =>
  obtain ⟨i,hi,rfl,rfl,HFi,HUi,HPi,HQi⟩:=hrel
  by_cases hc:i<M
  · have hcz:(i:Int)<(M:Int):=by omega
    have hw1:IntKind.i64.wrap ((i:Int)+1)=((i+1:Nat):Int):=by rw [IntWalk.i64_in _ (by omega)]; rfl
    have HFS:Hid (vB B G F M n (M-i) i=if inS B G F M n i then some i else vB B G F M n (M-(i+1)) (i+1)):=Lib.hid (by rw [show M-i=(M-(i+1))+1 by omega,Yq])
    have HIN:Hid (inS B G F M n i↔qZ B G F M i≤n∧n<qZ B G F M i+2^(zA G F M (i:Nat)).toNat):=Lib.hid Iff.rfl
    have HSV:Hid (Wk B G F M n i = .agg #[.int .i64 (i:Nat),.int .i64 ((zA G F M (i:Nat)).toNat:Nat),.int .i64 ((n-qZ B G F M i:Nat):Int)]):=Lib.hid rfl
    have hle:qZ B G F M i≤819300:=by have:=HLE.out i (by omega); omega
    have hnn:=QV G F M i (by omega)
    have hb13:=HBD.out i (by omega)
    have hbt:=fun w'=>HBT.out (i:Nat) w'
    have hbg:=fun w'=>HBG.out i w' (by omega)
    generalize qZ B G F M i=q at *
    obtain ⟨t,ht⟩ : ∃ t:Nat,zA G F M (i:Nat)=(t:Int):=⟨(zA G F M (i:Nat)).toNat,by omega⟩
    rw [ht] at hbt HIN HSV hb13 hnn
    rw [Int.toNat_natCast] at HIN HSV
    have ht13:t≤13:=by omega
    obtain ⟨P,hP⟩ : ∃ P:Nat,2^t=P:=⟨_,rfl⟩
    have hPb:P≤8192:=by
     have:=Nat.pow_le_pow_right (n:=2) (by omega) ht13
     omega
    have hpw:wrap64 ((2:Int)^t)=(P:Int):=by
     have:((2:Int)^t)=(P:Int):=by rw [← hP]; simp
     rw [this]
     unfold wrap64
     omega
    rw [hP] at HIN
    have HPW:=Lib.hid hpw
    clear hpw
    have HBTi:=Lib.hid hbt
    have HBGi:=Lib.hid hbg
    have hwq:IntKind.i64.wrap ((q:Int)+(P:Int))=((q+P:Nat):Int):=by rw [IntWalk.i64_in _ (by omega)]; rfl
    have hPi:=HPi.out
    have m3:=hPi.cell 3 rfl
    clear hbt hbg ht hP hb13 hnn
    go_wp2_with (refine zr rfl 233 _ rfl p rfl 233 _ hPi _ Tryz.underlying233 rfl (by kernel_rfl) ?_)
    refine (HBGi.out wr).mono ?_
    rintro e w3 ⟨rfl,hU3⟩
    have hP3:=HPi.out.upd hU3 (by simp)
    have HQ3:=Lib.hid (HQi.out.upd hU3 (by simp))
    have HU3:=Lib.hid (HUi.out.then hU3)
    have HP3:=Lib.hid hP3
    clear hU3 hPi m3
    by_cases hq:q≤n
    · have hqz:(q:Int)≤(n:Int):=by omega
      have hwb:IntKind.i64.wrap ((n:Int)-(q:Int))=((n-q:Nat):Int):=by rw [IntWalk.i64_in _ (by omega)]; omega
      have mA:=hP3.all
      have m3:=hP3.cell 3 rfl
      go_wp2_with fail
      refine (HBTi.out w3).mono ?_
      rintro e w4 ⟨rfl,hU4⟩
      have hP4:=HP3.out.upd hU4 (by simp)
      have HQ4:=Lib.hid (HQ3.out.upd hU4 (by simp))
      have HU4:=Lib.hid (HU3.out.then hU4)
      have HP4:=Lib.hid hP4
      clear hU4 hP3 mA m3
      by_cases hp:n<q+P
      · have hpz:(n:Int)<((q+P:Nat):Int):=by omega
        have HRI:Hid (r=i):=Lib.hid (by
         have h1:=HFi.out
         rw [HFS.out,if_pos (HIN.out.2 ⟨hq,hp⟩)] at h1
         exact (Option.some.inj h1).symm)
        have hpw:=HPW.out
        go_wp2_with (refine zr rfl 233 _ rfl p rfl 233 _ hP4 _ Tryz.underlying233 rfl (by kernel_rfl) ?_)
        refine (HBTi.out w4).mono ?_
        rintro e w5 ⟨rfl,hU5⟩
        have hQ5:=HQ4.out.upd hU5 (by simp)
        have HU5:=Lib.hid (HU4.out.then hU5)
        have fA:=hQ5.frz
        have cA:=hQ5.all
        have HQ5:=Lib.hid hQ5
        clear hU5 hP4 hQ5
        go_wp2
        have hB9:=((HQ5.out.set 0 (.int .i64 (i:Nat))).set 1 (.int .i64 (t:Nat))).set 2 (.int .i64 ((n-q:Nat):Int))
        refine bodyPost_ret (jj rfl _ _ (p+1) _ _ _ _ (.bool true) (by simp [Act.put]) (by simp [Act.put]) hB9 Tryz.underlying207 rfl (by rw [Qd]; rfl)) (by simp [Act.put]) ⟨?_,?_⟩
        · rw [HRI.out,HSV.out]; rfl
        · exact ((HU5.out.setCell (.inr (by rw [HP0.out]; simp)) _).setCell (.inr (by rw [HP0.out]; simp)) _).setCell (.inr (by rw [HP0.out]; simp)) _
      · have hpz : ¬ (n:Int)<((q+P:Nat):Int):=by omega
        have HF2:Hid (vB B G F M n (M-(i+1)) (i+1)=some r):=Lib.hid (by
         have h1:=HFi.out
         rw [HFS.out,if_neg (fun h=>hp (HIN.out.1 h).2)] at h1
         exact h1)
        have hpw:=HPW.out
        go_wp2
        clear hpw
        go_roundg (100-(i+1))
        · exact ⟨i+1,by omega,by first | rfl | omega,by first | rfl | go_num,HF2,HU4,HP4,HQ4⟩
        · omega
    · have hqz : ¬ (q:Int)≤(n:Int):=by omega
      have HF2:Hid (vB B G F M n (M-(i+1)) (i+1)=some r):=Lib.hid (by
       have h1:=HFi.out
       rw [HFS.out,if_neg (fun h=>hq (HIN.out.1 h).1)] at h1
       exact h1)
      go_wp2
      go_roundg (100-(i+1))
      · exact ⟨i+1,by omega,by first | rfl | omega,by first | rfl | go_num,HF2,HU3,HP3,HQ3⟩
      · omega
  · exfalso
    have h1:=HFi.out
    rw [show M-i=0 by omega,zbO] at h1
    cases h1
end Go.Proofs.YtfkcdnaghndgfaaGreatDoor
namespace Go.Proofs.YtfkcdnaghndgfaaGreatDoor
open Go.RowKit
theorem zgh : ∀ k:Fin 28,(zA 4 8 28 (k.val:Nat)).toNat=qq.getD k.val 0∧qZ 3 4 8 28 k.val=lAt.getD k.val 0:=by decide +kernel
theorem ze1 : ∀ n:Fin 259,3≤n.val→n.val≠258→vB 3 4 8 28 n.val 28 0=ya n.val 29 0∧((ya n.val 29 0).getD 99)<28:=by decide +kernel
theorem zgI:ya 258 29 0=some 28:=by decide +kernel
theorem Xx : ∀ k:Fin 30,(zA 2 4 30 (k.val:Nat)).toNat=dBt k.val∧qZ 1 2 4 30 k.val=dAt.getD k.val 0∧qZ 1 2 4 30 k.val+2^(zA 2 4 30 (k.val:Nat)).toNat=dAt.getD (k.val+1) 0:=by decide +kernel
theorem Vx (n:Nat) : ∀ m i,i+m≤30→vB 1 2 4 30 n m i=qb n m i
 | 0,i,h=>rfl
 | m+1,i,h=>by
   rw [Yq,JI,Vx n m (i+1) (by omega)]
   obtain ⟨_,h1,h2⟩:=Xx ⟨i,by omega⟩
   have e:inS 1 2 4 30 n i↔isD n i:=by
    unfold inS isD
    dsimp only at h1 h2
    rw [h1] at h2 ⊢
    rw [h2]
   by_cases h3:isD n i
   · rw [if_pos h3,if_pos (e.2 h3)]
   · rw [if_neg h3,if_neg (fun q=>h3 (e.1 q))]
set_option maxRecDepth 100000 in
set_option maxHeartbeats 3200000 in
theorem YR (n:Nat) (w:World) (h1:1≤n) (h2:n≤32768) :
 Calls Tryz.prog 154 #[.int .i64 (n:Nat)] w fun e w' => ∃ i,qb n 30 0=some i∧e = .returned (.tuple #[Xk i n,.bool true])∧Upd [] w w':=by
 obtain ⟨r,hr,hr30⟩:=qD n h1 h2
 have hs:Wk 1 2 4 30 n r=Xk r n:=by
  obtain ⟨e1,e2,_⟩:=Xx ⟨r,hr30⟩
  dsimp only at e1 e2
  unfold Wk Xk
  rw [e1,e2]
 have HSG:=Lib.hid (fun w'=>zaN 1 2 4 30 n r w' (by decide) (by decide) (by decide) (by decide) (by decide) zcM (by omega) (by rw [Vx n 30 0 (by omega)]; exact hr))
 rw [hs] at HSG
 unfold Xk at HSG
 have HBV:Hid (Xk r n = .agg #[.int .i64 (r:Nat),.int .i64 (dBt r:Nat),.int .i64 ((n-dAt.getD r 0:Nat):Int)]):=Lib.hid rfl
 have HR:=Lib.hid hr
 generalize dAt.getD r 0=p at *
 generalize dBt r=bb at *
 have HQ:=Lib.hid (Blk.new w [.int .i64 0,.int .i64 0,.int .i64 0] 207)
 have HU:=Lib.hid ((Upd.refl [] w).alloc (.cells #[.int .i64 0,.int .i64 0,.int .i64 0] 207))
 clear hs hr
 go_enter Tryz.func154,Tryz.ntmps154
 go_wp2_with fail
 refine (ko _).mono ?_
 rintro e w1 ⟨rfl,hU1⟩
 have HQ1:=Lib.hid (HQ.out.upd hU1 (by simp))
 have HU1:=Lib.hid (HU.out.then hU1)
 clear hU1
 go_wp2_with fail
 refine (HSG.out w1).mono ?_
 rintro e w2 ⟨rfl,hU2⟩
 have hQ2:=HQ1.out.upd hU2 (by simp)
 have HU2:=Lib.hid (HU1.out.then hU2)
 have fA:=hQ2.frz
 have cA:=hQ2.all
 have HQ2:=Lib.hid hQ2
 clear hU2 hQ2
 go_wp2
 have hB9:=((HQ2.out.set 0 (.int .i64 (r:Nat))).set 1 (.int .i64 (bb:Nat))).set 2 (.int .i64 ((n-p:Nat):Int))
 refine bodyPost_ret (jj rfl _ _ w.heap.size _ _ _ _ (.bool true) (by simp [Act.put]) (by simp [Act.put]) hB9 Tryz.underlying207 rfl (by rw [Qd]; rfl)) (by simp [Act.put]) ⟨r,HR.out,?_,?_⟩
 · rw [HBV.out]; rfl
 · exact ((HU2.out.setCell (.inr (Nat.le_refl _)) _).setCell (.inr (Nat.le_refl _)) _).setCell (.inr (Nat.le_refl _)) _
set_option maxRecDepth 100000 in
set_option maxHeartbeats 3200000 in
theorem VC (n:Nat) (w:World) (h3:3≤n) (h258:n≤258) :
 Calls Tryz.prog 153 #[.int .i64 (n:Nat)] w fun e w' => ∃ i,ya n 29 0=some i∧e = .returned (.tuple #[KP i n,.bool true])∧Upd [] w w':=by
 have HQ:=Lib.hid (Blk.new w [.int .i64 0,.int .i64 0,.int .i64 0] 207)
 have HU:=Lib.hid ((Upd.refl [] w).alloc (.cells #[.int .i64 0,.int .i64 0,.int .i64 0] 207))
 by_cases he:n=258
 · subst he
   have HLV:Hid (KP 28 258 = .agg #[.int .i64 285,.int .i64 0,.int .i64 0]):=Lib.hid rfl
   go_enter Tryz.func153,Tryz.ntmps153
   go_wp2
   have hB9:=Blk.new w [.int .i64 285,.int .i64 0,.int .i64 0] 207
   refine bodyPost_ret (jj rfl _ _ w.heap.size _ _ _ _ (.bool true) (by simp [Act.put]) (by simp [Act.put]) hB9 Tryz.underlying207 rfl (by rw [Qd]; rfl)) (by simp [Act.put]) ⟨28,zgI,?_,?_⟩
   · rw [HLV.out]
   · exact (Upd.refl [] w).alloc _
 · have hez : ¬ (n:Int)=258:=by omega
   obtain ⟨hf,hlt⟩:=ze1 ⟨n,by omega⟩ h3 he
   dsimp only at hf hlt
   obtain ⟨r,hr⟩ : ∃ r,ya n 29 0=some r:=by
    cases h:ya n 29 0 with
    | none=>rw [h] at hlt; simp at hlt
    | some r=>exact ⟨r,rfl⟩
   rw [hr] at hf hlt
   have hr28:r<28:=hlt
   obtain ⟨e1,e2⟩:=zgh ⟨r,hr28⟩
   dsimp only at e1 e2
   have HSG:=Lib.hid (fun w'=>zaN 3 4 8 28 n r w' (by decide) (by decide) (by decide) (by decide) (by decide) zcZ (by omega) hf)
   unfold Wk at HSG
   rw [e1,e2] at HSG
   have HLV:Hid (KP r n = .agg #[.int .i64 ((257+r:Nat):Int),.int .i64 (qq.getD r 0:Nat),.int .i64 ((n-lAt.getD r 0:Nat):Int)]):=Lib.hid rfl
   have HR:=Lib.hid hr
   generalize lAt.getD r 0=p at *
   generalize qq.getD r 0=bb at *
   have hwr:IntKind.i64.wrap ((r:Int)+257)=(r:Int)+257:=IntWalk.i64_in _ (by omega)
   clear e1 e2 hf hr hlt he
   go_enter Tryz.func153,Tryz.ntmps153
   go_wp2_with fail
   refine (kD _).mono ?_
   rintro e w1 ⟨rfl,hU1⟩
   have HQ1:=Lib.hid (HQ.out.upd hU1 (by simp))
   have HU1:=Lib.hid (HU.out.then hU1)
   clear hU1
   go_wp2_with fail
   refine (HSG.out w1).mono ?_
   rintro e w2 ⟨rfl,hU2⟩
   have hQ2:=HQ1.out.upd hU2 (by simp)
   have HU2:=Lib.hid (HU1.out.then hU2)
   have hs2:w.heap.size+1≤w2.heap.size:=by have:=HU.out.size; have:=(HQ1.out.upd hU2 (by simp)).lt; omega
   have hQ3:=hQ2.alloc (.cells #[.int .i64 (r:Nat),.int .i64 (bb:Nat),.int .i64 ((n-p:Nat):Int)] 207)
   have hS3:=Blk.new w2 [.int .i64 (r:Nat),.int .i64 (bb:Nat),.int .i64 ((n-p:Nat):Int)] 207
   have hU3:=HU2.out.alloc (.cells #[.int .i64 (r:Nat),.int .i64 (bb:Nat),.int .i64 ((n-p:Nat):Int)] 207)
   have HQ3:=Lib.hid hQ3
   have HS3:=Lib.hid hS3
   have HU3:=Lib.hid hU3
   clear hU2 hQ2 hQ3 hS3 hU3
   go_upto_region 4 with fail
   change Code.wp _ _ _ _ (w2.alloc (.cells #[.int .i64 (r:Nat),.int .i64 (bb:Nat),.int .i64 ((n-p:Nat):Int)] 207))
   generalize w2.alloc (.cells #[.int .i64 (r:Nat),.int .i64 (bb:Nat),.int .i64 ((n-p:Nat):Int)] 207)=w3 at *
   generalize w2.heap.size=s at *
   have hws:w.heap.size≠s:=by omega
   have hS4:=HS3.out.set 0 (.int .i64 ((r:Int)+257))
   have hQ4:=HQ3.out.setFar (a:=⟨s,0,none⟩) (.int .i64 ((r:Int)+257)) hws
   have HU4:=Lib.hid (HU3.out.setCell (p:=⟨s,0,none⟩) (.inr (by show w.heap.size≤s; omega)) (.int .i64 ((r:Int)+257)))
   have k0:=HS3.out.cell 0 rfl
   have kA:=hS4.all
   have kf:=HS3.out.frz 0
   have fA:=hQ4.frz
   have cA:=hQ4.all
   have HQ4:=Lib.hid hQ4
   clear hS4 hQ4
   go_wp2
   have hB9:=((HQ4.out.set 0 (.int .i64 ((r:Int)+257))).set 1 (.int .i64 (bb:Nat))).set 2 (.int .i64 ((n-p:Nat):Int))
   refine bodyPost_ret (jj rfl _ _ w.heap.size _ _ _ _ (.bool true) (by simp [Act.put]) (by simp [Act.put]) hB9 Tryz.underlying207 rfl (by rw [Qd]; rfl)) (by simp [Act.put]) ⟨r,HR.out,?_,?_⟩
   · rw [HLV.out,show ((257+r:Nat):Int)=(r:Int)+257 by omega]; rfl
   · exact ((HU4.out.setCell (.inr (Nat.le_refl _)) _).setCell (.inr (Nat.le_refl _)) _).setCell (.inr (Nat.le_refl _)) _
end Go.Proofs.YtfkcdnaghndgfaaGreatDoor
namespace Go.Proofs.YtfkcdnaghndgfaaGreatDoor
open Go.RowKit
def xr (a:List Nat) (c:Nat):List Nat:=a.set c (a.getD c 0+1)
theorem QF (a:List Nat) (c:Nat):(xr a c).length=a.length:=by simp [xr]
theorem XW (a:List Nat) (c i:Nat) (h : ∀ x∈a,x≤i) : ∀ x∈xr a c,x≤i+1:=by
 intro x hx
 unfold xr at hx
 rcases List.mem_or_eq_of_mem_set hx with h1 | h1
 · have:=h x h1; omega
 · rw [h1,List.getD_eq_getElem?_getD]
   cases h2:a[c]? with
   | none=>simp
   | some y=>have:=h y (List.mem_of_getElem? h2); simp; omega
def xx (t:Tok):Nat:=if t.long=0 then t.byte else 257+(ya t.long.toNat 29 0).getD 0
def xK (t:Tok):Nat:=(qb t.back.toNat 30 0).getD 0
def ju (p:List Nat×List Nat) (t:Tok):List Nat×List Nat:=(xr p.1 (xx t),if t.long=0 then p.2 else xr p.2 (xK t))
def zh (l:List Tok):List Nat×List Nat:=l.foldl ju ((List.replicate 286 0).set 256 1,List.replicate 30 0)
theorem jO (l:List Tok) (t:Tok):zh (l++[t])=ju (zh l) t:=by unfold zh; rw [List.foldl_append]; rfl
structure ManyOk (p:List Nat×List Nat) (i:Nat):Prop where
 la:p.1.length=286
 lb:p.2.length=30
 ba : ∀ x∈p.1,x≤i+1
 bb : ∀ x∈p.2,x≤i+1
theorem ManyOk.step {p:List Nat×List Nat} {i:Nat} (h:ManyOk p i) (t:Tok):ManyOk (ju p t) (i+1):=by
 unfold ju
 refine ⟨by rw [QF]; exact h.la,?_,XW _ _ _ h.ba,?_⟩
 · dsimp only
   split
   · exact h.lb
   · rw [QF]; exact h.lb
 · dsimp only
   split
   · intro x hx; have:=h.bb x hx; omega
   · exact XW _ _ _ h.bb
theorem kI:zh []=((List.replicate 286 0).set 256 1,List.replicate 30 0):=rfl
theorem ManyOk.nil:ManyOk (zh []) 0:=by
 rw [kI]
 refine ⟨by rw [List.length_set,List.length_replicate],List.length_replicate,?_,?_⟩
 · intro x hx
   rcases List.mem_or_eq_of_mem_set hx with h1 | h1
   · have:=List.eq_of_mem_replicate h1; omega
   · omega
 · intro x hx
   have:=List.eq_of_mem_replicate hx
   omega
theorem xt (l:List Tok) : ∀ i,i≤l.length→ManyOk (zh (l.take i)) i
 | 0,_=>ManyOk.nil
 | i+1,h=>by
   rw [List.take_succ_eq_append_getElem (show i<l.length by omega),jO]
   exact (xt l i (by omega)).step _
theorem vY : ∀ n:Fin 259,3≤n.val→(ya n.val 29 0).getD 99<29:=by decide +kernel
def zgb (l:List Tok) (w:World) (e:Ending) (w':World):Prop := ∃ oa ob,e = .returned (.tuple #[.slice (some ⟨oa,0,none⟩) 286 286,.slice (some ⟨ob,0,none⟩) 30 30])∧Blk w' oa (zg (zh l).1) 3∧Blk w' ob (zg (zh l).2) 3∧w.heap.size≤oa∧w.heap.size≤ob∧oa≠ob∧Upd [] w w'
set_option maxRecDepth 100000 in
set_option maxHeartbeats 6400000 in
theorem zah (l:List Tok) (a:Option Addr) (n cap:Nat) (w:World) (hI:TokIn w a n l) (hn:n≤100000) (hok : ∀ t∈l,zo t) :
 Calls Tryz.prog 155 #[.slice a n cap] w fun e w'=>zgb l w e w':=by
 have HI:=Lib.hid hI
 have HLN:=Lib.hid hI.len
 have HOK:=Lib.hid hok
 have HMO:=Lib.hid (xt l)
 clear hI hok
 obtain ⟨ZA,hZA⟩ : ∃ Z,List.replicate 286 0=Z:=⟨_,rfl⟩
 obtain ⟨ZB,hZB⟩ : ∃ Z,List.replicate 30 0=Z:=⟨_,rfl⟩
 have hm1 : ∀ w,(Instr.makeSlice 98 (.int .i64 286) (.int .i64 286)).run Tryz.prog w = .ok (.slice (some ⟨w.heap.size,0,none⟩) 286 286) (w.alloc (.cells (zg ZA).toArray 3)):=by rw [← hZA]; exact zcc 286 (by omega)
 have hm2 : ∀ w,(Instr.makeSlice 98 (.int .i64 30) (.int .i64 30)).run Tryz.prog w = .ok (.slice (some ⟨w.heap.size,0,none⟩) 30 30) (w.alloc (.cells (zg ZB).toArray 3)):=by rw [← hZB]; exact zcc 30 (by omega)
 have HZA:=Lib.hid hZA
 have HZB:=Lib.hid hZB
 clear hZA hZB
 go_enter Tryz.func155,Tryz.ntmps155
 go_upto_region 1 with fail
 go_cut [4,5] (fun s4 s5 wx => ∃ oa ob,s4 = .slice (some ⟨oa,0,none⟩) 286 286∧s5 = .slice (some ⟨ob,0,none⟩) 30 30∧Hid (Blk wx oa (zg ZA) 3)∧Hid (Blk wx ob (zg ZB) 3)∧Hid (w.heap.size≤oa∧w.heap.size≤ob∧oa≠ob)∧Hid (Upd [] w wx))
 case first =>
  go_region
  all_goals go_wp2
  all_goals go_meet
  · have h2:=Blk.new (w.alloc (.cells (zg ZA).toArray 3)) (zg ZB) 3
    rw [World.size_alloc] at h2
    exact ⟨_,_,rfl,rfl,Lib.hid ((Blk.new w (zg ZA) 3).alloc _).drew,Lib.hid h2.drew,Lib.hid ⟨Nat.le_refl _,Nat.le_succ _,by omega⟩,Lib.hid (((Upd.refl [] w).alloc _).alloc _).drew⟩
  · have h2:=Blk.new (w.alloc (.cells (zg ZB).toArray 3)) (zg ZA) 3
    rw [World.size_alloc] at h2
    exact ⟨_,_,rfl,rfl,Lib.hid h2.drew,Lib.hid ((Blk.new w (zg ZB) 3).alloc _).drew,Lib.hid ⟨Nat.le_succ _,Nat.le_refl _,by omega⟩,Lib.hid (((Upd.refl [] w).alloc _).alloc _).drew⟩
 case rest =>
  obtain ⟨oa,ob,rfl,rfl,HBA,HBB,HNE,HUx⟩:=hcut
  have hne:=HNE.out.2.2
  have c256:=HBA.out.cell 256 (zL ZA 256 0 (by rw [← HZA.out,List.getElem?_replicate]; rfl))
  have f256:=HBA.out.frz 256
  have HA1:Hid (Blk (wc.setCell ⟨oa,256,none⟩ (.int .i64 1)) oa (zg (zh (l.take 0)).1) 3):=Lib.hid (by
   have h:=HBA.out.set 256 (.int .i64 1)
   rw [List.take_zero,kI,HZA.out]
   rw [xj]
   exact h)
  have HB1:Hid (Blk (wc.setCell ⟨oa,256,none⟩ (.int .i64 1)) ob (zg (zh (l.take 0)).2) 3):=Lib.hid (by
   rw [List.take_zero,kI,HZB.out]
   exact HBB.out.setFar (a:=⟨oa,256,none⟩) _ (Ne.symm hne))
  have HU1:Hid (Upd [] w (wc.setCell ⟨oa,256,none⟩ (.int .i64 1))):=Lib.hid (HUx.out.setCell (.inr HNE.out.1) _)
  clear HBA HBB HUx hm1 hm2
  go_wp2
  generalize wc.setCell ⟨oa,256,none⟩ (.int .i64 1)=w1 at *
  clear c256 f256
  go_loopg [18] 200000 (fun gg s18 wr => ∃ i:Nat,i≤n∧gg=200000-i∧s18 = .int .i64 (i:Nat)∧Hid (Blk wr oa (zg (zh (l.take i)).1) 3)∧Hid (Blk wr ob (zg (zh (l.take i)).2) 3)∧Hid (Upd [] w wr))
  case atStart=>exact ⟨0,by omega,by omega,rfl,HA1,HB1,HU1⟩
  case round =>
   obtain ⟨i,hin,rfl,rfl,HA,HB,HU⟩:=hrel
   by_cases hc:i<n
   · have hcz:(i:Int)<(n:Int):=by omega
     have hil:i<l.length:=by rw [HLN.out]; exact hc
     have hw1:IntKind.i64.wrap ((i:Int)+1)=((i+1:Nat):Int):=by rw [IntWalk.i64_in _ (by omega)]; rfl
     obtain ⟨b,off,rfl,⟨hc1,hc2,hc3⟩,r1,r2,r3⟩:=(HI.out.pure HU.out).cell i hil
     have HST:Hid (zh (l.take (i+1))=ju (zh (l.take i)) l[i]):=Lib.hid (by rw [List.take_succ_eq_append_getElem hil,jO])
     have hot:=HOK.out l[i] (List.getElem_mem hil)
     have HMk:=Lib.hid (HMO.out i (by omega))
     generalize l[i]=t at *
     generalize zh (l.take i)=p at *
     obtain ⟨pa,pb⟩:=p
     obtain ⟨tb,tl,tk⟩:=t
     dsimp only at hc1 hc2 hc3 r1 r2 r3
     have hT4:=Blk.new wr [.int .u8 (tb:Nat),.int .i64 tl,.int .i64 tk] 130
     have hU4:=HU.out.alloc (.cells #[.int .u8 (tb:Nat),.int .i64 tl,.int .i64 tk] 130)
     have hA4:=HA.out.alloc (.cells #[.int .u8 (tb:Nat),.int .i64 tl,.int .i64 tk] 130)
     have hB4:=HB.out.alloc (.cells #[.int .u8 (tb:Nat),.int .i64 tl,.int .i64 tk] 130)
     have hog:oa<wr.heap.size∧ob<wr.heap.size:=⟨HA.out.lt,HB.out.lt⟩
     clear hil HA HB HU
     go_upto_region 6 with fail
     change Code.wp _ _ _ _ (wr.alloc (.cells #[.int .u8 (tb:Nat),.int .i64 tl,.int .i64 tk] 130))
     generalize wr.alloc (.cells #[.int .u8 (tb:Nat),.int .i64 tl,.int .i64 tk] 130)=w4 at *
     generalize wr.heap.size=g at *
     have tA:=hT4.all
     have t2:=hT4.cell 2 rfl
     have HU4:=Lib.hid hU4
     have HT4:=Lib.hid hT4
     have HA4:=Lib.hid hA4
     have HB4:=Lib.hid hB4
     clear hT4 hU4 hA4 hB4 hc1 hc2 hc3
     have hgu:w.heap.size≤oa∧w.heap.size≤ob:=⟨HNE.out.1,HNE.out.2.1⟩
     have hla:=HMk.out.la
     have hlb:=HMk.out.lb
     have hba:=HMk.out.ba
     have hbb:=HMk.out.bb
     dsimp only at hla hlb hba hbb
     by_cases h0:tl=0
     · have hb256:tb<286:=by unfold zo at hot; dsimp only at hot; omega
       have hcl:xx ⟨tb,tl,tk⟩=tb:=by unfold xx; rw [if_pos h0]
       have hS2:ju (pa,pb) ⟨tb,tl,tk⟩=(xr pa tb,pb):=by unfold ju; rw [hcl]; dsimp only; rw [if_pos h0]
       have hgt:pa[tb]? =some (pa.getD tb 0):=by rw [List.getD_eq_getElem?_getD,List.getElem?_eq_getElem (by omega)]; rfl
       have hle:pa.getD tb 0≤i+1:=hba _ (List.mem_of_getElem? hgt)
       have ca:=HA4.out.cell tb (zL pa tb _ hgt)
       have fa:=HA4.out.frz tb
       have HAd:Hid (xr pa tb=pa.set tb (pa.getD tb 0+1)):=Lib.hid rfl
       generalize pa.getD tb 0=y at *
       have hwy:IntKind.i64.wrap ((y:Int)+1)=((y+1:Nat):Int):=by rw [IntWalk.i64_in _ (by omega)]; rfl
       have htz:(tb:Int)<286:=by omega
       have HA5:Hid (Blk (w4.setCell ⟨oa,tb,none⟩ (.int .i64 ((y+1:Nat):Int))) oa (zg (zh (l.take (i+1))).1) 3):=Lib.hid (by
        rw [HST.out,hS2]
        dsimp only
        rw [HAd.out,xj]
        exact HA4.out.set tb _)
       have HB5:Hid (Blk (w4.setCell ⟨oa,tb,none⟩ (.int .i64 ((y+1:Nat):Int))) ob (zg (zh (l.take (i+1))).2) 3):=Lib.hid (by
        rw [HST.out,hS2]
        exact HB4.out.setFar (a:=⟨oa,tb,none⟩) _ (Ne.symm hne))
       have HU5:=Lib.hid (HU4.out.setCell (p:=⟨oa,tb,none⟩) (.inr hgu.1) (.int .i64 ((y+1:Nat):Int)))
       subst h0
       clear hot hla hlb hba hbb hcl hS2 hgt HMk HT4 HA4 HB4 HU4
       go_wp2
       go_roundg (200000-(i+1))
       · exact ⟨i+1,by omega,by first | rfl | omega,by first | rfl | go_num,HA5,HB5,HU5⟩
       · omega
     · have hot2:3≤tl∧tl≤258∧1≤tk∧tk≤32768:=by unfold zo at hot; dsimp only at hot; omega
       obtain ⟨L,rfl⟩ : ∃ L:Nat,tl=(L:Int):=⟨tl.toNat,by omega⟩
       obtain ⟨K,rfl⟩ : ∃ K:Nat,tk=(K:Int):=⟨tk.toNat,by omega⟩
       have HSL:=Lib.hid (fun w'=>VC L w' (by omega) (by omega))
       have HSB:=Lib.hid (fun w'=>YR K w' (by omega) (by omega))
       have hS2:ju (pa,pb) ⟨tb,(L:Int),(K:Int)⟩=(xr pa (257+(ya L 29 0).getD 0),xr pb ((qb K 30 0).getD 0)):=by
        unfold ju xx xK
        dsimp only
        rw [if_neg h0,if_neg h0,Int.toNat_natCast,Int.toNat_natCast]
       have HS2:=Lib.hid hS2
       have hL29:=vY ⟨L,by omega⟩ (by omega:3≤L)
       dsimp only at hL29
       have h0b:((L:Int)==0)=false:=by simpa using h0
       have hK:1≤K∧K≤32768:=by omega
       clear hS2 hot hot2
       go_wp2_with fail
       refine (HSL.out _).mono ?_
       rintro e w5 ⟨x,hx,rfl,hU5⟩
       rw [hx] at hL29
       have hx29:x<29:=hL29
       have HX:=Lib.hid hx
       have HT5:=Lib.hid (HT4.out.upd hU5 (by simp))
       have HA5:=Lib.hid (HA4.out.upd hU5 (by simp))
       have HB5:=Lib.hid (HB4.out.upd hU5 (by simp))
       have HU5:=Lib.hid (HU4.out.then hU5)
       have hs5:=hU5.size
       have hg4:=HT4.out.lt
       clear hx hL29 hU5 HT4 HA4 HB4 HU4 tA t2 HSL
       unfold KP
       generalize qq.getD x 0=xb at *
       generalize L-lAt.getD x 0=xm at *
       obtain ⟨c,hcc⟩ : ∃ c,257+x=c:=⟨_,rfl⟩
       rw [hcc]
       have HCC:=Lib.hid hcc
       have hc286:c<286:=by omega
       clear hcc
       have hT6:=HT5.out.alloc (.cells #[.int .i64 (c:Nat),.int .i64 (xb:Nat),.int .i64 (xm:Nat)] 207)
       have hA6:=HA5.out.alloc (.cells #[.int .i64 (c:Nat),.int .i64 (xb:Nat),.int .i64 (xm:Nat)] 207)
       have hB6:=HB5.out.alloc (.cells #[.int .i64 (c:Nat),.int .i64 (xb:Nat),.int .i64 (xm:Nat)] 207)
       have hU6:=HU5.out.alloc (.cells #[.int .i64 (c:Nat),.int .i64 (xb:Nat),.int .i64 (xm:Nat)] 207)
       have hQ6:=Blk.new w5 [.int .i64 (c:Nat),.int .i64 (xb:Nat),.int .i64 (xm:Nat)] 207
       have hs6:(w5.alloc (.cells #[.int .i64 (c:Nat),.int .i64 (xb:Nat),.int .i64 (xm:Nat)] 207)).heap.size=w5.heap.size+1:=World.size_alloc _ _
       clear HT5 HA5 HB5 HU5
       go_upto_region 9 with fail
       change Code.wp _ _ _ _ (w5.alloc (.cells #[.int .i64 (c:Nat),.int .i64 (xb:Nat),.int .i64 (xm:Nat)] 207))
       generalize w5.alloc (.cells #[.int .i64 (c:Nat),.int .i64 (xb:Nat),.int .i64 (xm:Nat)] 207)=w6 at *
       generalize w5.heap.size=s1 at *
       have t2:=hT6.cell 2 rfl
       have HA6:=Lib.hid hA6
       have HB6:=Lib.hid hB6
       have HU6:=Lib.hid hU6
       have HQ6:=Lib.hid hQ6
       clear hT6 hA6 hB6 hU6 hQ6
       go_wp2_with fail
       refine (HSB.out _).mono ?_
       rintro e w7 ⟨z,hz,rfl,hU7⟩
       have HZ:=Lib.hid hz
       have hz30:z<30:=by
        obtain ⟨r,h1,h2⟩:=qD K hK.1 hK.2
        rw [hz] at h1
        cases h1
        exact h2
       have HA7:=Lib.hid (HA6.out.upd hU7 (by simp))
       have HB7:=Lib.hid (HB6.out.upd hU7 (by simp))
       have HU7:=Lib.hid (HU6.out.then hU7)
       have HQ7:=Lib.hid (HQ6.out.upd hU7 (by simp))
       have hs7:=hU7.size
       clear hz hU7 HA6 HB6 HU6 HQ6 t2 HSB
       unfold Xk
       generalize dBt z=zb at *
       generalize K-dAt.getD z 0=zm at *
       have hA8:=HA7.out.alloc (.cells #[.int .i64 (z:Nat),.int .i64 (zb:Nat),.int .i64 (zm:Nat)] 207)
       have hB8:=HB7.out.alloc (.cells #[.int .i64 (z:Nat),.int .i64 (zb:Nat),.int .i64 (zm:Nat)] 207)
       have hU8:=HU7.out.alloc (.cells #[.int .i64 (z:Nat),.int .i64 (zb:Nat),.int .i64 (zm:Nat)] 207)
       have hQ8:=HQ7.out.alloc (.cells #[.int .i64 (z:Nat),.int .i64 (zb:Nat),.int .i64 (zm:Nat)] 207)
       have hR8:=Blk.new w7 [.int .i64 (z:Nat),.int .i64 (zb:Nat),.int .i64 (zm:Nat)] 207
       clear HA7 HB7 HU7 HQ7
       go_upto_region 10 with fail
       change Code.wp _ _ _ _ (w7.alloc (.cells #[.int .i64 (z:Nat),.int .i64 (zb:Nat),.int .i64 (zm:Nat)] 207))
       generalize w7.alloc (.cells #[.int .i64 (z:Nat),.int .i64 (zb:Nat),.int .i64 (zm:Nat)] 207)=w8 at *
       generalize w7.heap.size=s2 at *
       have hgt:pa[c]? =some (pa.getD c 0):=by rw [List.getD_eq_getElem?_getD,List.getElem?_eq_getElem (by omega)]; rfl
       have hgb:pb[z]? =some (pb.getD z 0):=by rw [List.getD_eq_getElem?_getD,List.getElem?_eq_getElem (by omega)]; rfl
       have hle:pa.getD c 0≤i+1:=hba _ (List.mem_of_getElem? hgt)
       have hlz:pb.getD z 0≤i+1:=hbb _ (List.mem_of_getElem? hgb)
       have ca:=hA8.cell c (zL pa c _ hgt)
       have fa:=hA8.frz c
       have q0:=hQ8.cell 0 rfl
       have HAd:Hid (xr pa c=pa.set c (pa.getD c 0+1)):=Lib.hid rfl
       have HBd:Hid (xr pb z=pb.set z (pb.getD z 0+1)):=Lib.hid rfl
       have HS3:Hid (zh (l.take (i+1))=(xr pa c,xr pb z)):=Lib.hid (by rw [HST.out,HS2.out,HX.out,HZ.out,← HCC.out]; rfl)
       have hbz:=zL pb z _ hgb
       generalize pa.getD c 0=y at *
       generalize pb.getD z 0=yb at *
       have hwy:IntKind.i64.wrap ((y:Int)+1)=(y:Int)+1:=IntWalk.i64_in _ (by omega)
       have hwb:IntKind.i64.wrap ((yb:Int)+1)=(yb:Int)+1:=IntWalk.i64_in _ (by omega)
       have hcz2:(c:Int)<286:=by omega
       have hzz:(z:Int)<30:=by omega
       have hA9:=hA8.set c (.int .i64 ((y:Int)+1))
       have hB9:=hB8.setFar (a:=⟨oa,c,none⟩) (.int .i64 ((y:Int)+1)) (Ne.symm hne)
       have hR9:=hR8.setFar (a:=⟨oa,c,none⟩) (.int .i64 ((y:Int)+1)) (by show s2≠oa; omega)
       have r0:=hR9.cell 0 rfl
       have cb:=hB9.cell z hbz
       have fb:=hB9.frz z
       have HA10:Hid (Blk ((w8.setCell ⟨oa,c,none⟩ (.int .i64 ((y:Int)+1))).setCell ⟨ob,z,none⟩ (.int .i64 ((yb:Int)+1))) oa (zg (zh (l.take (i+1))).1) 3):=Lib.hid (by
        rw [HS3.out]
        dsimp only
        rw [HAd.out,xj]
        exact hA9.setFar (a:=⟨ob,z,none⟩) _ hne)
       have HB10:Hid (Blk ((w8.setCell ⟨oa,c,none⟩ (.int .i64 ((y:Int)+1))).setCell ⟨ob,z,none⟩ (.int .i64 ((yb:Int)+1))) ob (zg (zh (l.take (i+1))).2) 3):=Lib.hid (by
        rw [HS3.out]
        dsimp only
        rw [HBd.out,xj]
        exact hB9.set z _)
       have HU10:=Lib.hid ((hU8.setCell (p:=⟨oa,c,none⟩) (.inr hgu.1) (.int .i64 ((y:Int)+1))).setCell (p:=⟨ob,z,none⟩) (.inr hgu.2) (.int .i64 ((yb:Int)+1)))
       clear hA8 hB8 hU8 hQ8 hR8 hA9 hB9 hR9 hbz hgt hgb hla hlb hba hbb HMk
       go_wp2
       go_roundg (200000-(i+1))
       · exact ⟨i+1,by omega,by first | rfl | omega,by first | rfl | go_num,HA10,HB10,HU10⟩
       · omega
   · have hcz : ¬ (i:Int)<(n:Int):=by omega
     obtain rfl:i=n:=by omega
     have htk:l.take i=l:=List.take_of_length_le (by rw [HLN.out]; exact Nat.le_refl _)
     rw [htk] at HA HB
     clear htk
     go_wp2
     go_returns
     exact ⟨oa,ob,rfl,HA.out,HB.out,HNE.out.1,HNE.out.2.1,HNE.out.2.2,HU.out⟩
end Go.Proofs.YtfkcdnaghndgfaaGreatDoor
