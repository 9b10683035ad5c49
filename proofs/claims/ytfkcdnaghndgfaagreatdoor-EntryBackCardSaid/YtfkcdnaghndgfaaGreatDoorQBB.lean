/- Package lens: the coins of a row, counted: its walk. -/
import Derived.Laws.EntriesVeiled
import Derived.WalkSpells
import Derived.Lib.SliceRun
import Derived.Test.YtfkcdnaghndgfaaGreatDoorQBA
import Derived.Test.YtfkcdnaghndgfaaGreatDoorQAP
set_option linter.unusedVariables false
set_option linter.unusedSimpArgs false
set_option linter.unusedSectionVars false
namespace Go.Proofs.YtfkcdnaghndgfaaGreatDoor
open Go.RowKit
def qo (L:List Nat):Coin→List Nat
 | .leaf _ s=>L.set s (L.getD s 0+1)
 | .pack a b=>qo (qo L a) b
theorem kC : ∀ (c:Coin) (L:List Nat),(qo L c).length=L.length
 | .leaf _ s,L=>by simp [qo]
 | .pack a b,L=>by rw [qo,kC b,kC a]
theorem Xo : ∀ (c:Coin) (L:List Nat) (s:Nat),s<L.length→(qo L c).getD s 0=L.getD s 0+c.cnt s
 | .leaf _ q,L,s,h=>by
   simp only [qo,Coin.cnt]
   by_cases e:q=s
   · subst e; simp [List.getD_eq_getElem?_getD,h]
   · simp [List.getD_eq_getElem?_getD,List.getElem?_set,e]
 | .pack a b,L,s,h=>by
   rw [qo,Xo b _ s (by rw [kC]; exact h),Xo a L s h]
   simp only [Coin.cnt]; omega
def Coin.many:Coin→Nat
 | .leaf _ _=>1
 | .pack a b=>a.many+b.many
def Coin.syms (n:Nat):Coin→Prop
 | .leaf _ s=>s<n
 | .pack a b=>a.syms n∧b.syms n
theorem Blk.neT {w:World} {b b':Nat} {cs cs':List Value} {t t':TypeId} (h:Blk w b cs t) (h':Blk w b' cs' t') (ht:t≠t'):b≠b':=by
 intro e
 subst e
 unfold Blk at h h'
 rw [h] at h'
 simp at h'
 exact ht h'.2
set_option maxRecDepth 100000 in
set_option maxHeartbeats 6400000 in
theorem zbw (wt s:Nat) (p:Value) (L:List Nat) (n cap bx bc ob:Nat) (w:World) (hc:CoinAt w p (.leaf wt s)) (hs:s<n) (hL:L.length=n) (hB:Blk w ob (zg L) 3) (hx:Blk w bx [.slice (some ⟨ob,0,none⟩) n cap] 98) (hv:L.getD s 0≤1000000) :
 Calls Tryz.prog 218 #[p,.pointer (some ⟨bx,0,none⟩),.pointer (some ⟨bc,0,none⟩)] w fun e w'=>e = .returned (.tuple #[])∧Blk w' ob (zg (qo L (.leaf wt s))) 3∧Upd [ob] w w':=by
 obtain ⟨b,rfl,hb⟩:=hc
 have x0:=hx.cell 0 rfl
 have b1:=hb.cell 1 rfl
 have b2:=hb.cell 2 rfl
 have hn1:b≠ob:=hb.neT hB (by decide)
 have hn2:bx≠ob:=hx.neT hB (by decide)
 have hsl:s<L.length:=by omega
 have hget:L.getD s 0=L[s]:=by simp [List.getD_eq_getElem?_getD,hsl]
 have o0:=hB.cell s (zL L s L[s] (List.getElem?_eq_getElem hsl))
 have of:=hB.frz s
 have HA:Hid (qo L (.leaf wt s)=L.set s (L[s]+1)):=Lib.hid (by simp only [qo]; rw [hget])
 rw [hget] at hv
 generalize L[s]=q at *
 have HB:=Lib.hid hB
 have HN1:=Lib.hid hn1
 have b2':(w.setCell ⟨ob,s,none⟩ (.int .i64 ((q:Int)+1))).cell? ⟨b,2,none⟩=some (.slice none 0 0):=(hb.setFar (a:=⟨ob,s,none⟩) _ hn1).cell 2 rfl
 have x0s:(w.setCell ⟨ob,s,none⟩ (.int .i64 ((q:Int)+1))).drew.cell? ⟨bx,0,none⟩=some (.slice (some ⟨ob,0,none⟩) n cap):=(hx.setFar (a:=⟨ob,s,none⟩) _ hn2).drew.cell 0 rfl
 have b1s:(w.setCell ⟨ob,s,none⟩ (.int .i64 ((q:Int)+1))).drew.cell? ⟨b,1,none⟩=some (.int .i64 (s:Nat)):=(hb.setFar (a:=⟨ob,s,none⟩) _ hn1).drew.cell 1 rfl
 have hsz:(s:Int)<(n:Int):=by omega
 have hw1:IntKind.i64.wrap ((q:Int)+1)=(q:Int)+1:=IntWalk.i64_in _ (by omega)
 have hnil : ∀ w,(binOp .eql 259 (.slice none 0 0) (.slice none 0 0)).run Tryz.prog w = .ok (.bool true) w:=fun w=>Lib.run_eql_slice_nil w 259 260 none 0 0 0 0 Tryz.underlying259
 clear hb hx hB hn1 hn2 hget hsl
 go_enter Tryz.func218,Tryz.ntmps218
 go_wp2_with fail
 refine wp_region_held_drew (S:=fun w'=>w'.cell? ⟨bx,0,none⟩=some (.slice (some ⟨ob,0,none⟩) n cap)∧w'.cell? ⟨b,1,none⟩=some (.int .i64 (s:Nat))) (by kernel_rfl) ⟨x0,b1⟩ (fun hHeld=>hdN ?_)
 refine hdT 0 (some 11) ?_ (hy:=by intro w0 hSw; have q0:=hSw.1; go_simp; try with_reducible rfl); refine hdT 1 (some 12) ?_
 refine hdT 2 (some 13) ?_; refine hdT 3 (some 14) ?_
 refine hdT 4 (some 15) ?_ (hy:=by intro w0 hSw; have q0:=hSw.2; go_simp; try with_reducible rfl); refine hdT 5 (some 16) ?_
 refine hdO 6 (fun K hK=>?_)
 go_simp
 skip
 go_wp2
 refine hK.out _ _ hHeld (fun hHeld=>hdN ?_)
 clear hK K
 refine hdT 7 (some 18) ?_ (hy:=by intro w0 hSw; go_simp; all_goals rw [hw1]) (v := .int .i64 ((q:Int)+1)); refine hdT 8 (some 19) ?_
 refine hdO 9 (fun K hK=>?_)
 go_simp
 skip
 go_wp2
 refine hK.out _ _ ⟨x0s,b1s⟩ (fun hHeld=>hdN ?_)
 clear hK K
 refine wpAnyH_done (by kernel_rfl) ?_ 0
 go_wp2
 refine wp_loop_rounds 1 ?_
 rw [rounds_succ]
 go_wp2
 go_end0
 refine ⟨rfl,?_,((Upd.refl _ _).setCell (.inl (by simp)) _).drew⟩
 rw [HA.out,xj]
 exact (HB.out.set s _).drew
theorem ZU : ∀ (c:Coin) (L:List Nat) (s:Nat),(qo L c).getD s 0≤L.getD s 0+c.many
 | .leaf _ q,L,s=>by
   simp only [qo,Coin.many]
   by_cases e:q=s
   · subst e
     by_cases h:q<L.length
     · simp [List.getD_eq_getElem?_getD,h]
     · simp [List.getD_eq_getElem?_getD,h]
   · simp [List.getD_eq_getElem?_getD,List.getElem?_set,e]
 | .pack a b,L,s=>by
   have h1:=ZU a L s
   have h2:=ZU b (qo L a) s
   simp only [qo,Coin.many]; omega
set_option maxRecDepth 100000 in
set_option maxHeartbeats 6400000 in
theorem Qy (n cap bx bc ob:Nat) : ∀ (c:Coin) (p:Value) (L:List Nat) (w:World),CoinAt w p c→c.syms n→L.length=n→Blk w ob (zg L) 3→Blk w bx [.slice (some ⟨ob,0,none⟩) n cap] 98 →
 Blk w bc [.func (.func 218) #[] #[.pointer (some ⟨bx,0,none⟩),.pointer (some ⟨bc,0,none⟩)]] 266→(∀ s,L.getD s 0+c.many≤1000000) →
 Calls Tryz.prog 218 #[p,.pointer (some ⟨bx,0,none⟩),.pointer (some ⟨bc,0,none⟩)] w fun e w'=>e = .returned (.tuple #[])∧Blk w' ob (zg (qo L c)) 3∧Upd [ob] w w'
 | .leaf wt s,p,L,w,hc,hs,hL,hB,hx,hf,hv=>zbw wt s p L n cap bx bc ob w hc hs hL hB hx (by have:=hv s; omega)
 | .pack a d,p,L,w,hc,hs,hL,hB,hx,hf,hv=>by
   have ih1:=Qy n cap bx bc ob a
   have ih2:=Qy n cap bx bc ob d
   obtain ⟨b,g,i,k,pa,pc,arr,fr,rfl,hb,hg,ha1,ha2,hca,hcd⟩:=hc
   have g1:w.cell? ⟨g,i,none⟩=some pa:=by rw [cell_of_row w g i arr _ fr hg]; exact ha1
   have g2:w.cell? ⟨g,i+1,none⟩=some pc:=by rw [cell_of_row w g (i+1) arr _ fr hg]; exact ha2
   have hgo:g≠ob:=by
    intro e
    subst e
    unfold Blk at hB
    rw [hg] at hB
    simp at hB
   have hn1:b≠ob:=hb.neT hB (by decide)
   have hn2:bx≠ob:=hx.neT hB (by decide)
   have hn3:bc≠ob:=hf.neT hB (by decide)
   have I1:=Lib.hid (ih1 pa L w hca hs.1 hL hB hx hf (fun s=>by have:=hv s; simp only [Coin.many] at this; omega))
   have I2:=Lib.hid (fun (w1:World) (h1:Blk w1 ob (zg (qo L a)) 3) (hu:Upd [ob] w w1) =>
    ih2 pc (qo L a) w1 (hcd.keep (KeepC.of_ints hB hu)) hs.2 (by rw [kC]; exact hL) h1 (hx.upd hu (by simpa using hn2)) (hf.upd hu (by simpa using hn3)) (fun s=>by have:=hv s; have:=ZU a L s; simp only [Coin.many] at *; omega))
   have HBb:=Lib.hid hb
   have HBf:=Lib.hid hf
   have HG2:=Lib.hid g2
   have HNE:=Lib.hid (And.intro hgo (And.intro hn1 hn3))
   have x2:=hb.cell 2 rfl
   have f0:=hf.cell 0 rfl
   have hnil : ∀ w,(binOp .eql 259 (.slice (some ⟨g,i,none⟩) 2 k) (.slice none 0 0)).run Tryz.prog w = .ok (.bool false) w:=fun w=>Lib.run_eql_slice_nil w 259 260 (some ⟨g,i,none⟩) 2 k 0 0 Tryz.underlying259
   have hA:Hid (qo L (.pack a d)=qo (qo L a) d):=Lib.hid rfl
   clear ih1 ih2 hca hcd hs hL hB hx hf hv hb hg ha1 ha2 g2 hgo hn1 hn2 hn3
   go_enter Tryz.func218,Tryz.ntmps218
   go_wp2
   refine wp_loop_rounds 3 ?_
   rw [rounds_succ]
   go_wp2_with fail
   refine I1.out.mono ?_
   rintro e w1 ⟨rfl,hB1,hU1⟩
   have f1:=(HBf.out.upd hU1 (by simpa using HNE.out.2.2)).cell 0 rfl
   have g2:w1.cell? ⟨g,i+1,none⟩=some pc:=(hU1.at (World.block_lt_of_cell? w _ HG2.out) (by simpa using HNE.out.1) (i+1)).trans HG2.out
   have I3:=Lib.hid (I2.out w1 hB1 hU1)
   have HU1:=Lib.hid hU1
   clear hB1 hU1
   go_wp2
   rw [rounds_succ]
   go_wp2_with fail
   refine I3.out.mono ?_
   rintro e w2 ⟨rfl,hB2,hU2⟩
   have HB2:=Lib.hid hB2
   have HU2:=Lib.hid (HU1.out.then hU2)
   clear hB2 hU2
   go_wp2
   rw [rounds_succ]
   go_wp2
   go_end0
   exact ⟨rfl,by rw [hA.out]; exact HB2.out,HU2.out⟩
end Go.Proofs.YtfkcdnaghndgfaaGreatDoor
namespace Go.Proofs.YtfkcdnaghndgfaaGreatDoor
theorem Yh {a b:List Coin} {c:Coin} (h:c∈zP a b):c∈a∨c∈b:=by
 unfold zP at h
 rwa [List.mem_merge] at h
theorem zaV (lv:List Coin) : ∀ j,(zW lv j).length≤2*lv.length
 | 0=>by simp [zW]
 | j+1=>by
   have:=zaV lv j
   rw [zW,qI,yN]
   omega
theorem zbr (lv:List Coin) (W:Nat) (h : ∀ c∈lv,c.w≤W) : ∀ j,∀ c∈zW lv j,c.w≤W*2^j
 | 0,c,hc=>by simp [zW] at hc
 | j+1,c,hc=>by
   have h2:W*2^(j+1)=W*2^j+W*2^j:=by rw [Nat.pow_succ,← Nat.mul_assoc]; omega
   have h3:W≤W*2^j:=Nat.le_mul_of_pos_right _ (Nat.pow_pos (by omega))
   rcases Yh hc with hc | hc
   · have:=h c hc; omega
   · obtain ⟨a,b,ha,hb,rfl⟩:=Jf hc
     have h4:=zbr lv W h j a ha
     have h5:=zbr lv W h j b hb
     show a.w+b.w≤_
     omega
theorem QZ (lv:List Coin) (n:Nat) (h : ∀ c∈lv,c.syms n) : ∀ j,∀ c∈zW lv j,c.syms n
 | 0,c,hc=>by simp [zW] at hc
 | j+1,c,hc=>by
   rcases Yh hc with hc | hc
   · exact h c hc
   · obtain ⟨a,b,ha,hb,rfl⟩:=Jf hc
     exact ⟨QZ lv n h j a ha,QZ lv n h j b hb⟩
def qY (l:List Coin):Nat:=(l.map Coin.many).sum
theorem Vd : ∀ l:List Coin,qY (yy l)≤qY l
 | []=>Nat.le_refl _
 | [_]=>by simp [yy,qY]
 | a::b::r=>by
   have:=Vd r
   simp only [yy,qY,List.map_cons,List.sum_cons,Coin.many] at *
   omega
theorem zca (a b:List Coin):qY (zP a b)=qY a+qY b:=by
 have h:(zP a b).Perm (a++b):=List.merge_perm_append _
 unfold qY
 rw [(h.map _).sum_nat,List.map_append,List.sum_append_nat]
theorem YP (lv:List Coin) : ∀ j,qY (zW lv j)≤qY lv*j
 | 0=>by simp [zW,qY]
 | j+1=>by
   have h1:=YP lv j
   have h2:=Vd (zW lv j)
   rw [zW,zca,Nat.mul_add]
   omega
theorem zet (l:List Coin) (k:Nat) (h:k<l.length):qY (l.take k)+l[k].many≤qY l:=by
 have:qY l=qY (l.take k)+qY (l.drop k):=by
  unfold qY
  rw [← List.sum_append_nat,← List.map_append,List.take_append_drop]
 rw [this,List.drop_eq_getElem_cons h]
 show _≤_+((l[k]::List.drop (k+1) l).map Coin.many).sum
 rw [List.map_cons,List.sum_cons]
 omega
def qV (l:List Nat) (cs:List Coin):List Nat:=cs.foldl (fun l c=>qo l c) l
theorem zcf (l:List Nat) (cs:List Coin) (c:Coin):qV l (cs++[c])=qo (qV l cs) c:=by simp [qV]
theorem Jk : ∀ (cs:List Coin) (l:List Nat),(qV l cs).length=l.length
 | [],l=>rfl
 | c::cs,l=>by
   show (qV (qo l c) cs).length=_
   rw [Jk cs,kC]
theorem Vz : ∀ (cs:List Coin) (l:List Nat) (s:Nat),s<l.length→(qV l cs).getD s 0=l.getD s 0+jA s cs
 | [],l,s,h=>by simp [qV,jA]
 | c::cs,l,s,h=>by
   show (qV (qo l c) cs).getD s 0=_
   rw [Vz cs _ s (by rw [kC]; exact h),Xo c l s h,VI]
   omega
theorem WH : ∀ (cs:List Coin) (l:List Nat) (s:Nat),(qV l cs).getD s 0≤l.getD s 0+qY cs
 | [],l,s=>by simp [qV,qY]
 | c::cs,l,s=>by
   have h1:=WH cs (qo l c) s
   have h2:=ZU c l s
   show (qV (qo l c) cs).getD s 0≤_
   have h3:qY (c::cs)=c.many+qY cs:=by simp [qY]
   omega
theorem zfq (many:List Int) (u:List Nat) (i:Nat) (h:i<u.length):lvs many (u.take (i+1))=lvs many (u.take i)++[.leaf (yr (many.getD u[i] 0)) u[i]]:=by
 unfold lvs
 rw [List.take_succ_eq_append_getElem h,List.map_append]
 rfl
theorem zi1 (many:List Int) (u:List Nat) : ∀ c∈lvs many u,c.w≤1073741824:=by
 intro c hc
 unfold lvs at hc
 obtain ⟨s,_,rfl⟩:=List.mem_map.1 hc
 exact zat _
theorem zgD (many:List Int) (u:List Nat) (n:Nat) (h : ∀ s∈u,s<n) : ∀ c∈lvs many u,c.syms n:=by
 intro c hc
 unfold lvs at hc
 obtain ⟨s,hs,rfl⟩:=List.mem_map.1 hc
 exact h s hs
theorem zgj (many:List Int) (u:List Nat):qY (lvs many u)=u.length:=by
 unfold lvs qY
 induction u with
 | nil=>rfl
 | cons s r ih=>simp [Coin.many] at *; omega
theorem zgH (many:List Int) (u:List Nat) (L n:Nat):qV (List.replicate n 0) ((zW (lvs many u) L).take (2*u.length-2))=(List.range n).map fun s=>qt many u L s:=by
 apply List.ext_getElem?
 intro s
 by_cases h:s<n
 · have h1:=Vz ((zW (lvs many u) L).take (2*u.length-2)) (List.replicate n 0) s (by simpa using h)
   have h2:s<(qV (List.replicate n 0) ((zW (lvs many u) L).take (2*u.length-2))).length:=by rw [Jk]; simpa using h
   rw [List.getD_eq_getElem?_getD,List.getElem?_eq_getElem h2] at h1
   simp [List.getD_eq_getElem?_getD,h] at h1
   rw [List.getElem?_eq_getElem h2,h1]
   simp [h,qt]
 · rw [List.getElem?_eq_none (by rw [Jk]; simpa using h),List.getElem?_eq_none (by simpa using h)]
end Go.Proofs.YtfkcdnaghndgfaaGreatDoor
