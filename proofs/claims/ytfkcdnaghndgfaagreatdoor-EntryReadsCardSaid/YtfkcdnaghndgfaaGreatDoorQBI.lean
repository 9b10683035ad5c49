/- slices.Concat of slices of pointers to coins: its walk. -/
import Derived.Laws.AppendOwnNone
import Derived.Test.YtfkcdnaghndgfaaGreatDoorQBH
import Derived.Laws.EntriesVeiled
import Derived.WalkSpells
import Derived.Lib.SliceRun
import Derived.Test.YtfkcdnaghndgfaaGreatDoorQAR
set_option linter.unusedVariables false
set_option linter.unusedSimpArgs false
set_option linter.unusedSectionVars false
namespace Go.Proofs.YtfkcdnaghndgfaaGreatDoor
open Go.RowKit
def SlC (w:World) (v:Value) (xs:List Value):Prop := ∃ a c,v = .slice a xs.length c∧xs.length≤c∧(a=none→c=0) ∧ ∀ i,(hi:i<xs.length) → ∃ b o,a=some ⟨b,o,none⟩∧w.cell? ⟨b,o+i,none⟩=some xs[i]
theorem jl {w:World} {b o:Nat} {u:Value} (h:w.cell? ⟨b,o,none⟩=some u):b<w.heap.size:=World.block_lt_of_cell? w ⟨b,o,none⟩ h
theorem SlC.upd {w w':World} {v:Value} {xs:List Value} (h:SlC w v xs) (hu:Upd [] w w'):SlC w' v xs:=by
 obtain ⟨a,c,h1,h2,h3,h4⟩:=h
 refine ⟨a,c,h1,h2,h3,fun i hi=>?_⟩
 obtain ⟨b,o,e,hc⟩:=h4 i hi
 exact ⟨b,o,e,(hu.at (jl hc) (by simp) (o+i)).trans hc⟩
theorem SlC.nil (w:World):SlC w (.slice none 0 0) []:=⟨none,0,rfl,Nat.le_refl _,fun _=>rfl,fun i hi=>by simp at hi⟩
theorem Row.slC {w:World} {e:TypeId} {v:Value} {n:Nat} {xs:List Value} (h:Row w e 1 v n xs):SlC w v xs:=by
 have hl:=h.len
 rcases h.2 with ⟨rfl,h0⟩ | ⟨g,cap,cur,rfl,_,hh,hc,_,_,_⟩
 · have:xs=[]:=List.eq_nil_of_length_eq_zero (by omega)
   subst this
   exact SlC.nil w
 · refine ⟨some ⟨g,0,none⟩,cap,by rw [hl,Nat.mul_one],by omega,(fun e=>by cases e),fun i hi=>⟨g,0,rfl,?_⟩⟩
   rw [Nat.zero_add]
   exact h.cell i (List.getElem?_eq_getElem hi)
theorem OwnC.slC {w0 w:World} {v:Value} {xs:List Value} (h:OwnC w0 w v xs):SlC w v xs:=h.1.slC
set_option maxRecDepth 100000 in
set_option maxHeartbeats 6400000 in
theorem Xp (vs:List Value) (xss:List (List Value)) (q k:Nat) (w:World) (hB:Blk w q vs 259) (hk:vs.length=k) (hx:xss.length=k) (hk9:k≤9)
 (hS : ∀ (i:Nat) (v:Value) (x:List Value),vs[i]? =some v→xss[i]? =some x→SlC w v x) (hone : ∀ x∈xss,∀ u∈x,u.oneCell'=true) (h0:0<xss.flatten.length) (hm:xss.flatten.length≤100000) :
 Calls Tryz.prog 231 #[.slice (some ⟨q,0,none⟩) k k] w fun e w' => ∃ v,e = .returned v∧OwnC w w' v xss.flatten∧Upd [] w w':=by
 obtain ⟨i0,hi,hz0,hz1,hz2⟩:=info_parts Xd
 have HB:=Lib.hid hB
 have HS:=Lib.hid hS
 have HKV:=Lib.hid hk
 have HONE:=Lib.hid hone
 have HKX:=Lib.hid hx
 have hsum : ∀ i,(xss.take i).flatten.length≤xss.flatten.length:=fun i=>by
  conv=>rhs; rw [← List.take_append_drop i xss,List.flatten_append,List.length_append]
  omega
 have HSM:=Lib.hid hsum
 obtain ⟨T,hT⟩ : ∃ T,xss.flatten.length=T:=⟨_,rfl⟩
 rw [hT] at h0 hm HSM
 have HT:=Lib.hid hT
 clear hB hS hk hx hsum hT hone
 have hkz:(k:Int)≤9:=by omega
 have hTz:(0:Int)<(T:Int):=by omega
 go_enter Tryz.func231,Tryz.ntmps231
 go_wp2
 go_loopg [3,11] k (fun gg s3 s11 wr => ∃ i,i≤k∧gg=k-i∧s11 = .int .i64 (i:Nat)∧s3 = .int .i64 ((xss.take i).flatten.length:Nat)∧wr=w)
 case atStart=>exact ⟨0,Nat.zero_le _,rfl,rfl,by simp,rfl⟩
 case round =>
  obtain ⟨i,hin,rfl,rfl,rfl,hwr⟩:=hrel
  subst hwr
  have hsi:=HSM.out i
  by_cases hc:i<k
  · have hcz:(i:Int)<(k:Int):=by omega
    have hi1:i<vs.length:=by rw [HKV.out]; exact hc
    have hi2:i<xss.length:=by rw [HKX.out]; exact hc
    have d:=HB.out.cell i (List.getElem?_eq_getElem hi1)
    obtain ⟨a1,c1,hv,hlc,han,hcl⟩:=HS.out i _ _ (List.getElem?_eq_getElem hi1) (List.getElem?_eq_getElem hi2)
    have hst:(xss.take (i+1)).flatten.length=(xss.take i).flatten.length+xss[i].length:=by
     rw [List.take_succ_eq_append_getElem hi2,List.flatten_append,List.length_append]; simp
    have hs2:=HSM.out (i+1)
    have HST:=Lib.hid hst
    rw [hst] at hs2
    clear hcl hlc han
    generalize vs[i]=V at *
    subst hv
    generalize xss[i].length=m at *
    generalize (xss.take i).flatten.length=t at *
    clear hst hi1 hi2
    have d0:wr.cell? ⟨q,0+i,none⟩=some (.slice a1 m c1):=by rw [Nat.zero_add]; exact d
    go_wp2
    go_roundg (k-(i+1))
    · exact ⟨i+1,by omega,rfl,by first | rfl | go_num,by rw [HST.out]; first | rfl | go_num,rfl⟩
    · omega
  · have hcz : ¬ (i:Int)<(k:Int):=by omega
    obtain rfl:i=k:=by omega
    have hfl:(xss.take i).flatten.length=T:=by rw [List.take_of_length_le (by rw [HKX.out]; exact Nat.le_refl _),HT.out]
    rw [hfl]
    clear hfl hsi
    go_wp2_with fail
    refine (zaX T _ h0 (by omega)).mono ?_
    rintro e w1 ⟨v,rfl,hO1,hU1,gg,cc,rfl⟩
    have HO1:=Lib.hid hO1
    have HU1:=Lib.hid hU1
    clear hO1 hU1
    go_wp2
    go_loopg [6,27] i (fun gg s6 s27 wx => ∃ j,j≤i∧gg=i-j∧s27 = .int .i64 (j:Nat)∧Hid (OwnC wr wx s6 (xss.take j).flatten)∧Hid (Upd [] wr wx))
    case atStart=>exact ⟨0,Nat.zero_le _,rfl,rfl,HO1,HU1⟩
    case round =>
     obtain ⟨wo,rfl⟩ : ∃ wo:World,wo=wr:=⟨_,rfl⟩
     obtain ⟨j,hji,rfl,rfl,HO,HU⟩:=hrel
     by_cases hc2:j<i
     · have hcz2:(j:Int)<(i:Int):=by omega
       have hi1:j<vs.length:=by rw [HKV.out]; exact hc2
       have hi2:j<xss.length:=by rw [HKX.out]; exact hc2
       have d:=(HB.out.upd HU.out (by simp)).cell j (List.getElem?_eq_getElem hi1)
       have hsl:=(HS.out j _ _ (List.getElem?_eq_getElem hi1) (List.getElem?_eq_getElem hi2)).upd HU.out
       have HFT:Hid ((xss.take (j+1)).flatten=(xss.take j).flatten++xss[j]):=Lib.hid (by
        rw [List.take_succ_eq_append_getElem hi2,List.flatten_append]; simp)
       have hs2:=HSM.out (j+1)
       rw [HFT.out,List.length_append] at hs2
       generalize vs[j]=V at *
       have HOX:=Lib.hid (HONE.out _ (List.getElem_mem hi2))
       generalize xss[j]=X at *
       generalize (xss.take j).flatten=F at *
       obtain ⟨F2,hF2⟩ : ∃ F2,(xss.take (j+1)).flatten=F2:=⟨_,rfl⟩
       rw [hF2] at HFT
       have HF2:=Lib.hid hF2
       clear hF2
       obtain ⟨a1,c1,hv,hlc,han,hcl⟩:=hsl
       subst hv
       have d0:=d
       rw [← Nat.zero_add j] at d0
       obtain ⟨va,vc,rfl⟩:=HO.out.form
       obtain ⟨fl,hfl⟩ : ∃ fl,F.length=fl:=⟨_,rfl⟩
       obtain ⟨xl,hxl⟩ : ∃ xl,X.length=xl:=⟨_,rfl⟩
       rw [hfl,hxl] at hs2
       rw [hfl] at HO ⊢
       have HFL:=Lib.hid hfl
       have HXL:=Lib.hid hxl
       have hR5:=HO.out.1
       rw [hfl] at hR5
       clear hi1 hi2
       cases a1 with
       | none =>
         have hc0:=han rfl
         subst hc0
         have hx0:xl=0:=by omega
         have hX:X=[]:=List.eq_nil_of_length_eq_zero (by omega)
         rw [hX,List.append_nil] at HFT
         rw [hxl,hx0] at d d0
         have HO2:=Lib.hid HO.out
         rw [← HFT.out] at HO2
         clear hcl hlc hX hfl hxl han
         go_wp2_with (at_builtin; refine wpList_append_own_none rfl _ _ 259 rfl 0 260 i0 1 Tryz.underlying259 hi (.slice va fl vc) fl _ rfl hR5 rfl ?_)
         go_wp2
         go_roundg (i-(j+1))
         · exact ⟨j+1,by omega,rfl,by first | rfl | go_num,Lib.hid (by rw [HF2.out]; exact HO2.out),HU⟩
         · omega
       | some ad =>
         rw [hxl] at d d0
         have hnw : ∀ t u,X[t]? =some u→wo.cell? (ad.add t)=some u:=fun t u ht=>by
          obtain ⟨ht1,ht2⟩:=List.getElem?_eq_some_iff.1 ht
          obtain ⟨b,o,hbo,hcc⟩:=hcl t ht1
          cases hbo
          rw [kz,hcc,ht2]
         have HNW:=Lib.hid hnw
         clear hcl hlc han hnw
         go_wp2_with (at_builtin; refine zC _ rfl _ _ 259 rfl 260 i0 _ 1 8 Tryz.underlying259 hi hz0 hz1 hz2 rfl (by omega) (.slice va fl vc) fl _ rfl hR5 ad xl c1 X rfl (by rw [hxl,Nat.mul_one]) HNW.out HOX.out (by unfold maxLen; omega) (by omega) ?_)
         intro v4 w4 hR4 hU4 hT4
         have hap:=HO.out.app HU.out (ys:=X) (by rw [HFL.out,HXL.out]; exact hR4) hU4 hT4
         rw [← HFT.out] at hap
         have HAP:=Lib.hid hap
         clear hR4 hU4 hT4 hap hR5
         go_wp2
         go_roundg (i-(j+1))
         · exact ⟨j+1,by omega,rfl,by first | rfl | go_num,Lib.hid (by rw [HF2.out]; exact HAP.out.1),Lib.hid HAP.out.2⟩
         · omega
     · have hcz2 : ¬ (j:Int)<(i:Int):=by omega
       obtain rfl:j=i:=by omega
       have hfl:(xss.take j).flatten=xss.flatten:=by rw [List.take_of_length_le (by rw [HKX.out]; exact Nat.le_refl _)]
       rw [hfl] at HO
       clear hfl
       go_wp2
       go_ret
       exact ⟨_,rfl,HO.out,HU.out⟩
end Go.Proofs.YtfkcdnaghndgfaaGreatDoor
namespace Go.Proofs.YtfkcdnaghndgfaaGreatDoor
open Go.RowKit
def qE (L:List Nat):Coin→List Nat
 | .leaf _ s=>L.set s (L.getD s 0+1)
 | .pack a b=>qE (qE L a) b
theorem kx : ∀ (c:Coin) (L:List Nat),(qE L c).length=L.length
 | .leaf _ s,L=>by simp [qE]
 | .pack a b,L=>by rw [qE,kx b,kx a]
theorem XL : ∀ (c:Coin) (L:List Nat) (s:Nat),s<L.length→(qE L c).getD s 0=L.getD s 0+c.cnt s
 | .leaf _ q,L,s,h=>by
   simp only [qE,Coin.cnt]
   by_cases e:q=s
   · subst e; simp [List.getD_eq_getElem?_getD,h]
   · simp [List.getD_eq_getElem?_getD,List.getElem?_set,e]
 | .pack a b,L,s,h=>by
   rw [qE,XL b _ s (by rw [kx]; exact h),XL a L s h]
   simp only [Coin.cnt]; omega
def Coin.many:Coin→Nat
 | .leaf _ _=>1
 | .pack a b=>a.many+b.many
def Coin.syms (n:Nat):Coin→Prop
 | .leaf _ s=>s<n
 | .pack a b=>a.syms n∧b.syms n
theorem Blk.neT {w:World} {b b':Nat} {cs cs':List Value} {t t':TypeId} (h:Blk w b cs t) (h':Blk w b' cs' t') (ht:t≠t'):b≠b':=by
 intro e
 subst e
 unfold Blk at h h'
 rw [h] at h'
 simp at h'
 exact ht h'.2
set_option maxRecDepth 100000 in
set_option maxHeartbeats 6400000 in
theorem zcs (wt s:Nat) (p:Value) (L:List Nat) (n cap bx bc ob:Nat) (w:World) (hc:CoinAt w p (.leaf wt s)) (hs:s<n) (hL:L.length=n) (hB:Blk w ob (zf L) 3) (hx:Blk w bx [.slice (some ⟨ob,0,none⟩) n cap] 98) (hv:L.getD s 0≤1000000) :
 Calls Tryz.prog 218 #[p,.pointer (some ⟨bx,0,none⟩),.pointer (some ⟨bc,0,none⟩)] w fun e w'=>e = .returned (.tuple #[])∧Blk w' ob (zf (qE L (.leaf wt s))) 3∧Upd [ob] w w':=by
 obtain ⟨b,rfl,hb⟩:=hc
 have x0:=hx.cell 0 rfl
 have b1:=hb.cell 1 rfl
 have b2:=hb.cell 2 rfl
 have hn1:b≠ob:=hb.neT hB (by decide)
 have hn2:bx≠ob:=hx.neT hB (by decide)
 have hsl:s<L.length:=by omega
 have hget:L.getD s 0=L[s]:=by simp [List.getD_eq_getElem?_getD,hsl]
 have o0:=hB.cell s (zt L s L[s] (List.getElem?_eq_getElem hsl))
 have of:=hB.frz s
 have HA:Hid (qE L (.leaf wt s)=L.set s (L[s]+1)):=Lib.hid (by simp only [qE]; rw [hget])
 rw [hget] at hv
 generalize L[s]=q at *
 have HB:=Lib.hid hB
 have HN1:=Lib.hid hn1
 have b2':(w.setCell ⟨ob,s,none⟩ (.int .i64 ((q:Int)+1))).cell? ⟨b,2,none⟩=some (.slice none 0 0):=(hb.setFar (a:=⟨ob,s,none⟩) _ hn1).cell 2 rfl
 have x0s:(w.setCell ⟨ob,s,none⟩ (.int .i64 ((q:Int)+1))).drew.cell? ⟨bx,0,none⟩=some (.slice (some ⟨ob,0,none⟩) n cap):=(hx.setFar (a:=⟨ob,s,none⟩) _ hn2).drew.cell 0 rfl
 have b1s:(w.setCell ⟨ob,s,none⟩ (.int .i64 ((q:Int)+1))).drew.cell? ⟨b,1,none⟩=some (.int .i64 (s:Nat)):=(hb.setFar (a:=⟨ob,s,none⟩) _ hn1).drew.cell 1 rfl
 have hsz:(s:Int)<(n:Int):=by omega
 have hw1:IntKind.i64.wrap ((q:Int)+1)=(q:Int)+1:=IntWalk.i64_in _ (by omega)
 have hnil : ∀ w,(binOp .eql 259 (.slice none 0 0) (.slice none 0 0)).run Tryz.prog w = .ok (.bool true) w:=fun w=>Lib.run_eql_slice_nil w 259 260 none 0 0 0 0 Tryz.underlying259
 clear hb hx hB hn1 hn2 hget hsl
 go_enter Tryz.func218,Tryz.ntmps218
 go_wp2_with fail
 refine wp_region_held_drew (S:=fun w'=>w'.cell? ⟨bx,0,none⟩=some (.slice (some ⟨ob,0,none⟩) n cap)∧w'.cell? ⟨b,1,none⟩=some (.int .i64 (s:Nat))) (by kernel_rfl) ⟨x0,b1⟩ (fun hHeld=>hdN ?_)
 refine hdT 0 (some 11) ?_ (hy:=by intro w0 hSw; have q0:=hSw.1; go_simp; try with_reducible rfl); refine hdT 1 (some 12) ?_
 refine hdT 2 (some 13) ?_; refine hdT 3 (some 14) ?_
 refine hdT 4 (some 15) ?_ (hy:=by intro w0 hSw; have q0:=hSw.2; go_simp; try with_reducible rfl); refine hdT 5 (some 16) ?_
 refine hdO 6 (fun K hK=>?_)
 go_simp
 skip
 go_wp2
 refine hK.out _ _ hHeld (fun hHeld=>hdN ?_)
 clear hK K
 refine hdT 7 (some 18) ?_ (hy:=by intro w0 hSw; go_simp; all_goals rw [hw1]) (v := .int .i64 ((q:Int)+1)); refine hdT 8 (some 19) ?_
 refine hdO 9 (fun K hK=>?_)
 go_simp
 skip
 go_wp2
 refine hK.out _ _ ⟨x0s,b1s⟩ (fun hHeld=>hdN ?_)
 clear hK K
 refine wpAnyH_done (by kernel_rfl) ?_ 0
 go_wp2
 refine wp_loop_rounds 1 ?_
 rw [rounds_succ]
 go_wp2
 go_end0
 refine ⟨rfl,?_,((Upd.refl _ _).setCell (.inl (by simp)) _).drew⟩
 rw [HA.out,xc]
 exact (HB.out.set s _).drew
theorem ZQ : ∀ (c:Coin) (L:List Nat) (s:Nat),(qE L c).getD s 0≤L.getD s 0+c.many
 | .leaf _ q,L,s=>by
   simp only [qE,Coin.many]
   by_cases e:q=s
   · subst e
     by_cases h:q<L.length
     · simp [List.getD_eq_getElem?_getD,h]
     · simp [List.getD_eq_getElem?_getD,h]
   · simp [List.getD_eq_getElem?_getD,List.getElem?_set,e]
 | .pack a b,L,s=>by
   have h1:=ZQ a L s
   have h2:=ZQ b (qE L a) s
   simp only [qE,Coin.many]; omega
set_option maxRecDepth 100000 in
set_option maxHeartbeats 6400000 in
theorem QT (n cap bx bc ob:Nat) : ∀ (c:Coin) (p:Value) (L:List Nat) (w:World),CoinAt w p c→c.syms n→L.length=n→Blk w ob (zf L) 3→Blk w bx [.slice (some ⟨ob,0,none⟩) n cap] 98 →
 Blk w bc [.func (.func 218) #[] #[.pointer (some ⟨bx,0,none⟩),.pointer (some ⟨bc,0,none⟩)]] 266→(∀ s,L.getD s 0+c.many≤1000000) →
 Calls Tryz.prog 218 #[p,.pointer (some ⟨bx,0,none⟩),.pointer (some ⟨bc,0,none⟩)] w fun e w'=>e = .returned (.tuple #[])∧Blk w' ob (zf (qE L c)) 3∧Upd [ob] w w'
 | .leaf wt s,p,L,w,hc,hs,hL,hB,hx,hf,hv=>zcs wt s p L n cap bx bc ob w hc hs hL hB hx (by have:=hv s; omega)
 | .pack a d,p,L,w,hc,hs,hL,hB,hx,hf,hv=>by
   have ih1:=QT n cap bx bc ob a
   have ih2:=QT n cap bx bc ob d
   obtain ⟨b,g,i,k,pa,pc,arr,fr,rfl,hb,hg,ha1,ha2,hca,hcd⟩:=hc
   have g1:w.cell? ⟨g,i,none⟩=some pa:=by rw [cell_of_row w g i arr _ fr hg]; exact ha1
   have g2:w.cell? ⟨g,i+1,none⟩=some pc:=by rw [cell_of_row w g (i+1) arr _ fr hg]; exact ha2
   have hgo:g≠ob:=by
    intro e
    subst e
    unfold Blk at hB
    rw [hg] at hB
    simp at hB
   have hn1:b≠ob:=hb.neT hB (by decide)
   have hn2:bx≠ob:=hx.neT hB (by decide)
   have hn3:bc≠ob:=hf.neT hB (by decide)
   have I1:=Lib.hid (ih1 pa L w hca hs.1 hL hB hx hf (fun s=>by have:=hv s; simp only [Coin.many] at this; omega))
   have I2:=Lib.hid (fun (w1:World) (h1:Blk w1 ob (zf (qE L a)) 3) (hu:Upd [ob] w w1) =>
    ih2 pc (qE L a) w1 (hcd.keep (KeepC.of_ints hB hu)) hs.2 (by rw [kx]; exact hL) h1 (hx.upd hu (by simpa using hn2)) (hf.upd hu (by simpa using hn3)) (fun s=>by have:=hv s; have:=ZQ a L s; simp only [Coin.many] at *; omega))
   have HBb:=Lib.hid hb
   have HBf:=Lib.hid hf
   have HG2:=Lib.hid g2
   have HNE:=Lib.hid (And.intro hgo (And.intro hn1 hn3))
   have x2:=hb.cell 2 rfl
   have f0:=hf.cell 0 rfl
   have hnil : ∀ w,(binOp .eql 259 (.slice (some ⟨g,i,none⟩) 2 k) (.slice none 0 0)).run Tryz.prog w = .ok (.bool false) w:=fun w=>Lib.run_eql_slice_nil w 259 260 (some ⟨g,i,none⟩) 2 k 0 0 Tryz.underlying259
   have hA:Hid (qE L (.pack a d)=qE (qE L a) d):=Lib.hid rfl
   clear ih1 ih2 hca hcd hs hL hB hx hf hv hb hg ha1 ha2 g2 hgo hn1 hn2 hn3
   go_enter Tryz.func218,Tryz.ntmps218
   go_wp2
   refine wp_loop_rounds 3 ?_
   rw [rounds_succ]
   go_wp2_with fail
   refine I1.out.mono ?_
   rintro e w1 ⟨rfl,hB1,hU1⟩
   have f1:=(HBf.out.upd hU1 (by simpa using HNE.out.2.2)).cell 0 rfl
   have g2:w1.cell? ⟨g,i+1,none⟩=some pc:=(hU1.at (World.block_lt_of_cell? w _ HG2.out) (by simpa using HNE.out.1) (i+1)).trans HG2.out
   have I3:=Lib.hid (I2.out w1 hB1 hU1)
   have HU1:=Lib.hid hU1
   clear hB1 hU1
   go_wp2
   rw [rounds_succ]
   go_wp2_with fail
   refine I3.out.mono ?_
   rintro e w2 ⟨rfl,hB2,hU2⟩
   have HB2:=Lib.hid hB2
   have HU2:=Lib.hid (HU1.out.then hU2)
   clear hB2 hU2
   go_wp2
   rw [rounds_succ]
   go_wp2
   go_end0
   exact ⟨rfl,by rw [hA.out]; exact HB2.out,HU2.out⟩
end Go.Proofs.YtfkcdnaghndgfaaGreatDoor
namespace Go.Proofs.YtfkcdnaghndgfaaGreatDoor
theorem Xx {a b:List Coin} {c:Coin} (h:c∈zG a b):c∈a∨c∈b:=by
 unfold zG at h
 rwa [List.mem_merge] at h
theorem WQ (lv:List Coin) : ∀ j,(zQ lv j).length≤2*lv.length
 | 0=>by simp [zQ]
 | j+1=>by
   have:=WQ lv j
   rw [zQ,qU,yP]
   omega
theorem zbd (lv:List Coin) (W:Nat) (h : ∀ c∈lv,c.w≤W) : ∀ j,∀ c∈zQ lv j,c.w≤W*2^j
 | 0,c,hc=>by simp [zQ] at hc
 | j+1,c,hc=>by
   have h2:W*2^(j+1)=W*2^j+W*2^j:=by rw [Nat.pow_succ,← Nat.mul_assoc]; omega
   have h3:W≤W*2^j:=Nat.le_mul_of_pos_right _ (Nat.pow_pos (by omega))
   rcases Xx hc with hc | hc
   · have:=h c hc; omega
   · obtain ⟨a,b,ha,hb,rfl⟩:=Jg hc
     have h4:=zbd lv W h j a ha
     have h5:=zbd lv W h j b hb
     show a.w+b.w≤_
     omega
theorem QM (lv:List Coin) (n:Nat) (h : ∀ c∈lv,c.syms n) : ∀ j,∀ c∈zQ lv j,c.syms n
 | 0,c,hc=>by simp [zQ] at hc
 | j+1,c,hc=>by
   rcases Xx hc with hc | hc
   · exact h c hc
   · obtain ⟨a,b,ha,hb,rfl⟩:=Jg hc
     exact ⟨QM lv n h j a ha,QM lv n h j b hb⟩
def jd (l:List Coin):Nat:=(l.map Coin.many).sum
theorem YU : ∀ l:List Coin,jd (yx l)≤jd l
 | []=>Nat.le_refl _
 | [_]=>by simp [yx,jd]
 | a::b::r=>by
   have:=YU r
   simp only [yx,jd,List.map_cons,List.sum_cons,Coin.many] at *
   omega
theorem zcn (a b:List Coin):jd (zG a b)=jd a+jd b:=by
 have h:(zG a b).Perm (a++b):=List.merge_perm_append _
 unfold jd
 rw [(h.map _).sum_nat,List.map_append,List.sum_append_nat]
theorem Vf (lv:List Coin) : ∀ j,jd (zQ lv j)≤jd lv*j
 | 0=>by simp [zQ,jd]
 | j+1=>by
   have h1:=Vf lv j
   have h2:=YU (zQ lv j)
   rw [zQ,zcn,Nat.mul_add]
   omega
theorem zeO (l:List Coin) (k:Nat) (h:k<l.length):jd (l.take k)+l[k].many≤jd l:=by
 have:jd l=jd (l.take k)+jd (l.drop k):=by
  unfold jd
  rw [← List.sum_append_nat,← List.map_append,List.take_append_drop]
 rw [this,List.drop_eq_getElem_cons h]
 show _≤_+((l[k]::List.drop (k+1) l).map Coin.many).sum
 rw [List.map_cons,List.sum_cons]
 omega
def jc (l:List Nat) (cs:List Coin):List Nat:=cs.foldl (fun l c=>qE l c) l
theorem zbw (l:List Nat) (cs:List Coin) (c:Coin):jc l (cs++[c])=qE (jc l cs) c:=by simp [jc]
theorem Jb : ∀ (cs:List Coin) (l:List Nat),(jc l cs).length=l.length
 | [],l=>rfl
 | c::cs,l=>by
   show (jc (qE l c) cs).length=_
   rw [Jb cs,kx]
theorem Vx : ∀ (cs:List Coin) (l:List Nat) (s:Nat),s<l.length→(jc l cs).getD s 0=l.getD s 0+jH s cs
 | [],l,s,h=>by simp [jc,jH]
 | c::cs,l,s,h=>by
   show (jc (qE l c) cs).getD s 0=_
   rw [Vx cs _ s (by rw [kx]; exact h),XL c l s h,Vi]
   omega
theorem za0 : ∀ (cs:List Coin) (l:List Nat) (s:Nat),(jc l cs).getD s 0≤l.getD s 0+jd cs
 | [],l,s=>by simp [jc,jd]
 | c::cs,l,s=>by
   have h1:=za0 cs (qE l c) s
   have h2:=ZQ c l s
   show (jc (qE l c) cs).getD s 0≤_
   have h3:jd (c::cs)=c.many+jd cs:=by simp [jd]
   omega
theorem zgz (many:List Int) (u:List Nat) (i:Nat) (h:i<u.length):lvs many (u.take (i+1))=lvs many (u.take i)++[.leaf (yr (many.getD u[i] 0)) u[i]]:=by
 unfold lvs
 rw [List.take_succ_eq_append_getElem h,List.map_append]
 rfl
theorem zi1 (many:List Int) (u:List Nat) : ∀ c∈lvs many u,c.w≤1073741824:=by
 intro c hc
 unfold lvs at hc
 obtain ⟨s,_,rfl⟩:=List.mem_map.1 hc
 exact zar _
theorem zfM (many:List Int) (u:List Nat) (n:Nat) (h : ∀ s∈u,s<n) : ∀ c∈lvs many u,c.syms n:=by
 intro c hc
 unfold lvs at hc
 obtain ⟨s,hs,rfl⟩:=List.mem_map.1 hc
 exact h s hs
theorem zfy (many:List Int) (u:List Nat):jd (lvs many u)=u.length:=by
 unfold lvs jd
 induction u with
 | nil=>rfl
 | cons s r ih=>simp [Coin.many] at *; omega
theorem zf6 (many:List Int) (u:List Nat) (L n:Nat):jc (List.replicate n 0) ((zQ (lvs many u) L).take (2*u.length-2))=(List.range n).map fun s=>qF many u L s:=by
 apply List.ext_getElem?
 intro s
 by_cases h:s<n
 · have h1:=Vx ((zQ (lvs many u) L).take (2*u.length-2)) (List.replicate n 0) s (by simpa using h)
   have h2:s<(jc (List.replicate n 0) ((zQ (lvs many u) L).take (2*u.length-2))).length:=by rw [Jb]; simpa using h
   rw [List.getD_eq_getElem?_getD,List.getElem?_eq_getElem h2] at h1
   simp [List.getD_eq_getElem?_getD,h] at h1
   rw [List.getElem?_eq_getElem h2,h1]
   simp [h,qF]
 · rw [List.getElem?_eq_none (by rw [Jb]; simpa using h),List.getElem?_eq_none (by simpa using h)]
end Go.Proofs.YtfkcdnaghndgfaaGreatDoor
