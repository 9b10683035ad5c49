/- Package lens: packed: its walk. -/
import Derived.Test.YtfkcdnaghndgfaaGreatDoorQBA
import Derived.Test.YtfkcdnaghndgfaaGreatDoorQAP
import Derived.Laws.EntriesVeiled
import Derived.Test.YtfkcdnaghndgfaaGreatDoorQBB
import Derived.Test.YtfkcdnaghndgfaaGreatDoorMerg
import Derived.Sort.Grow
import Derived.Shelf.SlSortCmp.NoneTotal
import Derived.Test.YtfkcdnaghndgfaaGreatDoorQAA
set_option linter.unusedVariables false
set_option linter.unusedSimpArgs false
set_option linter.unusedSectionVars false
namespace Go.Proofs.YtfkcdnaghndgfaaGreatDoor
open Go.RowKit
theorem zic (w:World) (cs:Array Value) (t:TypeId) (p:Value) (e:TypeId) (hp:p.oneCell'=true) : ∀ j u,[p][j]? =some u→(((w.alloc (.cells cs t)).alloc (.cells #[p] e)).drew).cell? ((⟨w.heap.size+1,0,none⟩:Addr).add j)=some u:=by
 intro j u hu
 cases j with
 | zero =>
   simp at hu
   subst hu
   rw [add_zero]
   have:=(Blk.new (w.alloc (.cells cs t)) [p] e).cell 0 rfl
   rw [World.size_alloc] at this
   exact this
 | succ j=>simp at hu
theorem QJ : ∀ (cs:List Coin) (k:Nat) {i:Nat} (hi:i=2*k) (h:i+1<cs.length),(yy cs)[k]? =some (.pack cs[i] cs[i+1])
 | [],k,i,hi,h=>by simp at h
 | [_],k,i,hi,h=>by simp at h
 | a::b::r,0,i,hi,h=>by subst hi; rfl
 | a::b::r,k+1,i,hi,h=>by
   subst hi
   have ih:=QJ r k (i:=2*k) rfl (by simp at h; omega)
   show (yy r)[k]? =_
   rw [ih]
   rfl
theorem Row.neB {w:World} {e t:TypeId} {size n b:Nat} {v:Value} {xs cs:List Value} (h:Row w e size v n xs) (hB:Blk w b cs t) (ht:t≠e):v.ownBlock≠some b:=by
 rcases h.2 with ⟨rfl,rfl⟩ | ⟨g',cap,cur,rfl,hb,hh,_⟩
 · simp [Value.ownBlock]
 · intro e2
   simp [Value.ownBlock] at e2
   subst e2
   unfold Blk at hB
   rw [hh] at hB
   simp at hB
   exact ht hB.2.symm
def zgo (w0 w:World) (bg kk:Nat) (j:Nat) (p:Value) (c:Coin):Prop := ∃ b,p = .pointer (some ⟨b,0,none⟩)∧w0.heap.size≤b∧Blk w b [.int .i64 (c.w:Nat),.int .i64 0,.slice (some ⟨bg,2*j,none⟩) 2 (kk-2*j)] 262
set_option maxRecDepth 100000 in
set_option maxHeartbeats 6400000 in
theorem za7 (v:Value) (ps:List Value) (cs:List Coin) (w:World) (h:Row w 260 1 v ps.length ps) (k:CoinsAt w ps cs) (hl:ps.length≤1000) (hw : ∀ c∈cs,c.w≤70368744177664) :
 Calls Tryz.prog 216 #[v] w fun e w' => ∃ v' ps',e = .returned v'∧OwnC w w' v' ps'∧CoinsAt w' ps' (yy cs)∧Upd [] w w':=by
 obtain ⟨i0,hi,hz0,hz1,hz2⟩:=info_parts XD
 have HR:=Lib.hid h
 have K:=Lib.hid k
 have HW:=Lib.hid hw
 obtain ⟨a,kc,rfl⟩:=h.form
 obtain ⟨n,hn⟩ : ∃ n,ps.length=n:=⟨_,rfl⟩
 rw [hn] at hl HR ⊢
 have HN:=Lib.hid hn
 clear h k hw hn
 go_enter Tryz.func216,Tryz.ntmps216
 go_wp2
 go_loopg [2,3] 1000 (fun gg s2 s3 wr => ∃ (k i:Nat) (po:List Value),Hid (i=2*k)∧i≤n∧gg=1000-k∧s3 = .int .i64 (i:Nat)∧Hid (OwnC w wr s2 po)∧Hid (Upd [] w wr)∧Hid (po.length=k)∧Hid (∀ j p c,po[j]? =some p→(yy cs)[j]? =some c → ∃ bg,a=some ⟨bg,0,none⟩∧zgo w wr bg kc j p c))
 case atStart=>exact ⟨0,0,[],Lib.hid rfl,by omega,rfl,rfl,Lib.hid (OwnC.nil _ _),Lib.hid (Upd.refl _ _),Lib.hid rfl,Lib.hid (fun j p c h=>by simp at h)⟩
 case round =>
  obtain ⟨k,i,po,HIK,hin,rfl,rfl,HO,HU,HPL,HPA⟩:=hrel
  by_cases hc:i+1<n
  · have hcz:(i:Int)+1<(n:Int):=by omega
    have hi0:i<ps.length:=by rw [HN.out]; omega
    have hi1:i+1<ps.length:=by rw [HN.out]; exact hc
    obtain ⟨bg,kc2,hkk,hbg,hnk⟩:=HR.out.form' (by omega)
    have e1:a=some ⟨bg,0,none⟩:=by injection hkk
    have e2:kc=kc2:=by injection hkk
    subst e1 e2
    have hc0:=HR.out.cell i (List.getElem?_eq_getElem hi0)
    have hc1:=HR.out.cell (i+1) (List.getElem?_eq_getElem hi1)
    have hj0:i<cs.length:=by rw [← K.out.1]; exact hi0
    have hj1:i+1<cs.length:=by rw [← K.out.1]; exact hi1
    have hk0:=K.out.2 i _ _ (List.getElem?_eq_getElem hi0) (List.getElem?_eq_getElem hj0)
    have hk1:=K.out.2 (i+1) _ _ (List.getElem?_eq_getElem hi1) (List.getElem?_eq_getElem hj1)
    have hw0:=HW.out _ (List.getElem_mem hj0)
    have hw1:=HW.out _ (List.getElem_mem hj1)
    have HPK:Hid ((yy cs)[k]? =some (.pack cs[i] cs[i+1])):=Lib.hid (QJ cs k (i:=i) HIK.out hj1)
    generalize ps[i]=P0 at *
    generalize ps[i+1]=P1 at *
    generalize cs[i]=x at *
    generalize cs[i+1]=y at *
    obtain ⟨b0,u0,v0,rfl,hB0⟩:=hk0.head
    obtain ⟨b1,u1,v1,rfl,hB1⟩:=hk1.head
    have hd0:=hB0.cell 0 rfl
    have hd1:=hB1.cell 0 rfl
    have HXW:Hid ((Coin.pack x y).w=x.w+y.w):=Lib.hid rfl
    generalize x.w=m1 at *
    generalize y.w=m2 at *
    have HC0:=Lib.hid hc0
    have HC1:=Lib.hid hc1
    have HW0:=Lib.hid hd0
    have HW1:=Lib.hid hd1
    have HNK:=Lib.hid hnk
    obtain ⟨va,vc,rfl⟩:=HO.out.form
    obtain ⟨fl,hfl⟩ : ∃ fl,po.length=fl:=⟨_,rfl⟩
    rw [hfl] at HO HPL ⊢
    have HFL:=Lib.hid hfl
    have hflb:fl≤1000:=by have:=HPL.out; have:=HIK.out; omega
    have hs1:IntKind.i64.wrap ((i:Int)+1)=((i+1:Nat):Int):=by rw [IntWalk.i64_in _ (by omega)]; rfl
    have hs2:IntKind.i64.wrap ((i:Int)+2)=((i+2:Nat):Int):=by rw [IntWalk.i64_in _ (by omega)]; rfl
    have hs3:IntKind.i64.wrap ((m1:Int)+(m2:Int))=((m1+m2:Nat):Int):=by rw [IntWalk.i64_in _ (by omega)]; simp
    have hb0:(i:Int)<(n:Int):=by omega
    have hb1:((i+1:Nat):Int)<(n:Int):=by omega
    have hb2:((i+2:Nat):Int)≤(kc:Int):=by omega
    have hb3:i+2-i=2:=by omega
    have hb7:(0:Int)≤(i:Int)+1:=by omega
    have hb8:(0:Int)≤(i:Int)+2:=by omega
    have hb9:(i:Int)+2≤(kc:Int):=by omega
    have hb10:(i:Int)≤(i:Int)+2:=by omega
    have hb4:i+2≤kc:=by omega
    have hb5 : ¬ kc=i:=by omega
    have hb6:(i:Int)≤((i+2:Nat):Int):=by omega
    clear hfl hc0 hc1 hd0 hd1 hk0 hk1 hB0 hB1 hi0 hi1 hj0 hj1 hkk
    go_wp2_with fail
    refine wp_region_held_drew (S:=fun w'=>Upd [] w w') (by kernel_rfl) HU.out.drew (fun hHeld=>hdN ?_)
    refine hdT 0 (some 11) ?_; refine hdT 1 (some 12) ?_; refine hdT 2 (some 13) ?_; refine hdT 3 (some 14) ?_
    refine hdT 4 (some 15) ?_ (hy:=by intro w0 hSw; have q0:=(hSw.at (jc HC0.out) (by simp) _).trans HC0.out; go_simp; try with_reducible rfl)
    refine hdT 5 (some 16) ?_; refine hdT 6 (some 17) ?_
    refine hdT 7 (some 18) ?_ (hy:=by intro w0 hSw; have q0:=(hSw.at (jc HW0.out) (by simp) _).trans HW0.out; go_simp; try with_reducible rfl)
    refine hdT 8 (some 19) ?_; refine hdT 9 (some 20) ?_
    refine hdT 10 (some 21) ?_ (hy:=by intro w0 hSw; go_simp; all_goals rw [hs1]) (v := .int .i64 ((i+1:Nat):Int)); refine hdT 11 (some 22) ?_
    refine hdT 12 (some 23) ?_ (hy:=by intro w0 hSw; have q0:=(hSw.at (jc HC1.out) (by simp) _).trans HC1.out; go_simp; try with_reducible rfl)
    refine hdT 13 (some 24) ?_; refine hdT 14 (some 25) ?_
    refine hdT 15 (some 26) ?_ (hy:=by intro w0 hSw; have q0:=(hSw.at (jc HW1.out) (by simp) _).trans HW1.out; go_simp; try with_reducible rfl)
    refine hdT 16 (some 27) ?_ (hy:=by intro w0 hSw; go_simp; all_goals rw [hs3]) (v := .int .i64 ((m1+m2:Nat):Int)); refine hdT 17 (some 28) ?_
    refine hdT 18 (some 29) ?_; refine hdT 19 (some 30) ?_
    refine hdT 20 (some 31) ?_ (hy:=by intro w0 hSw; go_simp; all_goals rw [hs2]) (v := .int .i64 ((i+2:Nat):Int))
    refine hdT 21 (some 32) ?_ (hy:=by intro w0 hSw; go_simp; all_goals omega) (v := .slice (some ⟨bg,i,none⟩) 2 (kc-i)); refine hdT 22 (some 33) ?_
    refine hdO 23 (fun K hK=>?_)
    go_simp
    skip
    go_wp2
    refine hK.out _ _ (hHeld.alloc _) (fun hHeld=>hdN ?_)
    clear hK K
    refine hdO 24 (fun K hK=>?_)
    go_simp
    skip
    go_wp2
    refine hK.out _ _ (hHeld.alloc _) (fun hHeld=>hdN ?_)
    clear hK K
    refine hdO 25 (fun K hK=>?_)
    have hRz:=((HO.out.1.alloc (.cells #[.int .i64 ((m1+m2:Nat):Int),.int .i64 0,.slice (some ⟨bg,i,none⟩) 2 (kc-i)] 262)).alloc (.cells #[.pointer (some ⟨wr.heap.size,0,none⟩)] 260)).drew
    rw [HFL.out] at hRz
    refine qP _ rfl _ _ 259 rfl 260 i0 _ 1 8 Tryz.underlying259 hi hz0 hz1 hz2 rfl (by omega) (.slice va fl vc) fl _ rfl hRz ⟨wr.heap.size+1,0,none⟩ 1 1 [.pointer (some ⟨wr.heap.size,0,none⟩)] rfl rfl (zic _ _ _ _ _ rfl) (by simp [Value.oneCell']) (by unfold maxLen; omega) (by omega) ?_
    intro v4 w4 hR4 hU4 hT4
    show K (Act.put _ (some 36) v4) w4
    refine hK.out _ _ (hHeld.trans hU4 (fun q hq => .inr (HO.out.2 q (by simpa using hq)))) (fun hHeld=>hdN ?_)
    clear hK K
    refine hdT 26 (some 2) ?_
    refine wpAnyH_done (by kernel_rfl) ?_ 0
    have hmm:Upd [] wr (((wr.alloc (.cells #[.int .i64 ((m1+m2:Nat):Int),.int .i64 0,.slice (some ⟨bg,i,none⟩) 2 (kc-i)] 262)).alloc (.cells #[.pointer (some ⟨wr.heap.size,0,none⟩)] 260)).drew):=(((Upd.refl _ _).alloc _).alloc _).drew
    have hap:=(HO.out.upd hmm).app (HU.out.then hmm) (ys:=[.pointer (some ⟨wr.heap.size,0,none⟩)]) (by rw [HFL.out]; exact hR4) hU4 hT4
    have hnb:Blk w4 wr.heap.size [.int .i64 ((m1+m2:Nat):Int),.int .i64 0,.slice (some ⟨bg,i,none⟩) 2 (kc-i)] 262:=(((Blk.new wr [.int .i64 ((m1+m2:Nat):Int),.int .i64 0,.slice (some ⟨bg,i,none⟩) 2 (kc-i)] 262).alloc (.cells #[.pointer (some ⟨wr.heap.size,0,none⟩)] 260)).drew).upd hU4 (fun hm=>by have:=HO.out.1.lt _ (by simpa using hm); omega)
    have hpa2 : ∀ j p c,(po++[.pointer (some ⟨wr.heap.size,0,none⟩)])[j]? =some p→(yy cs)[j]? =some c → ∃ bg2,some (⟨bg,0,none⟩:Addr)=some ⟨bg2,0,none⟩∧zgo w w4 bg2 kc j p c:=by
     intro j p c hp hcc
     by_cases hjk:j<po.length
     · rw [List.getElem?_append_left hjk] at hp
       obtain ⟨bg2,hb2,b,hb,hle,hBb⟩:=HPA.out j p c hp hcc
       exact ⟨bg2,hb2,b,hb,hle,(hBb.upd hmm (by simp)).upd hU4 (fun hm=>(HO.out.1.neB hBb (by decide)) (by simpa using hm))⟩
     · rw [List.getElem?_append_right (by omega)] at hp
       have hj0:j=k:=by
        have hl:=(List.getElem?_eq_some_iff.1 hp).1
        have:=HFL.out; have:=HPL.out
        simp at hl; omega
       subst hj0
       rw [HFL.out,HPL.out,Nat.sub_self] at hp
       rw [HPK.out] at hcc
       simp at hp hcc
       subst hp hcc
       refine ⟨bg,rfl,_,rfl,HU.out.size,?_⟩
       rw [HXW.out,← HIK.out]
       exact hnb
    have HAP:=Lib.hid hap
    have HPA2:=Lib.hid hpa2
    clear hap hpa2 hnb hmm hR4 hU4 hT4 hRz
    go_wp2
    go_roundg (1000-(k+1))
    · exact ⟨k+1,i+2,_,Lib.hid (by have:=HIK.out; omega),by omega,rfl,by first | rfl | go_num,Lib.hid HAP.out.1,Lib.hid HAP.out.2,Lib.hid (by rw [List.length_append,HFL.out,HPL.out]; rfl),HPA2⟩
    · have:=HIK.out; omega
  · have hcz : ¬ (i:Int)+1<(n:Int):=by omega
    have hCS:CoinsAt wr po (yy cs):=by
     have hl:po.length=(yy cs).length:=by
      rw [yN,← K.out.1,HN.out,HPL.out]
      have:=HIK.out
      omega
     refine ⟨hl,fun j p c hp hcc=>?_⟩
     obtain ⟨bg,hbg,b,rfl,hle,hBb⟩:=HPA.out j p c hp hcc
     cases hbg
     have hj:=(List.getElem?_eq_some_iff.1 hp).1
     rw [hl,yN] at hj
     have h2:2*j+1<cs.length:=by omega
     rw [QJ cs j (i:=2*j) rfl h2] at hcc
     cases hcc
     rcases HR.out.2 with ⟨e,_⟩ | ⟨g,c2,cur,e,hb,hh,hnc,hcm,hcs,htk⟩
     · cases e
     · injection e with e1 e2 e3
       injection e1 with e1
       injection e1 with e1 _
       subst e1 e3
       have h3:2*j+1<ps.length:=by rw [K.out.1]; exact h2
       have hcur : ∀ q,q<ps.length→cur[q]? =ps[q]?:=fun q hq=>by
        rw [← htk,List.getElem?_take,if_pos (by rw [HN.out] at hq; omega)]
        simp
       exact ⟨b,bg,2*j,kc-2*j,_,_,cur,(0,0),rfl,hBb,(HU.out.block bg (Array.getElem?_eq_some_iff.1 hh).1 (by simp)).trans hh,
        (hcur _ (by omega)).trans (List.getElem?_eq_getElem (by omega)),(hcur _ h3).trans (List.getElem?_eq_getElem h3),
        (K.out.2 _ _ _ (List.getElem?_eq_getElem (by omega)) (List.getElem?_eq_getElem (by omega))).upd HU.out,(K.out.2 _ _ _ (List.getElem?_eq_getElem h3) (List.getElem?_eq_getElem h2)).upd HU.out⟩
    have HCS:=Lib.hid hCS
    clear hCS
    go_wp2
    go_ret
    first
     | exact ⟨_,rfl,po,HO.out,HCS.out,HU.out⟩
     | exact ⟨_,po,rfl,HO.out,HCS.out,HU.out⟩
end Go.Proofs.YtfkcdnaghndgfaaGreatDoor
namespace Go.Proofs.YtfkcdnaghndgfaaGreatDoor
open Go.RowKit
theorem ziV (w:World) (cs:Array Value) (t:TypeId) (p:Value) (e:TypeId) (hp:p.oneCell'=true) : ∀ j u,[p][j]? =some u→((w.alloc (.cells cs t)).alloc (.cells #[p] e)).cell? ((⟨w.heap.size+1,0,none⟩:Addr).add j)=some u:=zic w cs t p e hp
theorem OwnC.base {w0 w1 w:World} {v:Value} {xs:List Value} (h:OwnC w1 w v xs) (hs:w0.heap.size≤w1.heap.size):OwnC w0 w v xs:=⟨h.1,fun k hk=>Nat.le_trans hs (h.2 k hk)⟩
theorem zhf {w w':World} {ps:List Value} {many:List Int} {u fp:List Nat} (h:CoinsAt w ps (lvs many u)) (hU:Upd fp w w') (hf : ∀ b cs,Blk w b cs 262→b∉fp):CoinsAt w' ps (lvs many u) :=
 ⟨h.1,fun i p c h1 h2=>by
  have h3:=h.2 i p c h1 h2
  obtain ⟨s,_,rfl⟩ : ∃ s,s∈u∧Coin.leaf (yr (many.getD s 0)) s=c:=by
   have:=List.mem_of_getElem? h2
   unfold lvs at this
   exact List.mem_map.1 this
  obtain ⟨b,rfl,hB⟩:=h3
  exact ⟨b,rfl,hB.upd hU (hf b _ hB)⟩⟩
theorem Ko {u:List Nat} {n i:Nat} (h : ∀ s∈u,s<n) (hi:i<u.length):u[i]<n:=h _ (List.getElem_mem hi)
set_option maxRecDepth 100000 in
set_option maxHeartbeats 6400000 in
theorem zgG (many:List Int) (u:List Nat) (L n cap ob k cu cm:Nat) (au am:Option Addr) (w:World) (hB:Blk w ob (zg (List.replicate n 0)) 3)
 (hus : ∀ i (h:i<u.length),∃ b o,au=some ⟨b,o,none⟩∧w.cell? ⟨b,o+i,none⟩=some (.int .i64 (u[i]:Nat))) (hI:IntsIn w am n many) (hn:n≤300) (hL:L≤15) (hk:u.length=k) (h2:2≤k) (hun:k≤n) (hlt : ∀ s∈u,s<n)
 (hrow:2*k-2≤(zW (lvs many u) L).length) :
 Calls Tryz.prog 191 #[.slice (some ⟨ob,0,none⟩) n cap,.slice au k cu,.slice am n cm,.int .i64 (L:Nat)] w fun e w'=>e = .returned (.tuple #[])∧Blk w' ob (zg ((List.range n).map fun s=>qt many u L s)) 3∧Upd [ob] w w':=by
 obtain ⟨i0,hi,hz0,hz1,hz2⟩:=info_parts XD
 have HBo:=Lib.hid hB
 have HUS:=Lib.hid hus
 have HI:=Lib.hid hI
 have HLT:=Lib.hid hlt
 have HK:=Lib.hid hk
 have HROW:=Lib.hid hrow
 have HLN:=Lib.hid hI.len
 clear hB hus hI hlt hk hrow
 have hLz:(L:Int)≤15:=by omega
 go_enter Tryz.func191,Tryz.ntmps191
 go_wp2
 go_loopg [8,17] 1000 (fun gg s8 s17 wr => ∃ (i:Nat) (ps:List Value),i≤k∧gg=1000-i∧s17 = .int .i64 (i:Nat)∧Hid (OwnC w wr s8 ps)∧Hid (CoinsAt wr ps (lvs many (u.take i)))∧Hid (ps.length=i)∧Hid (Upd [] w wr)∧Hid (Blk wr w.heap.size [.slice (some ⟨ob,0,none⟩) n cap] 98))
 case atStart=>exact ⟨0,[],by omega,rfl,rfl,Lib.hid (OwnC.nil _ _),Lib.hid (CoinsAt.nil _),Lib.hid rfl,Lib.hid ((Upd.refl _ _).alloc _),Lib.hid (Blk.new w _ _)⟩
 case round =>
  obtain ⟨i,ps,hik,rfl,rfl,HO,HC,HPL,HU,HX⟩:=hrel
  by_cases hc:i<k
  · have hcz:(i:Int)<(k:Int):=by omega
    have hiu:i<u.length:=by rw [HK.out]; exact hc
    obtain ⟨b,o,rfl,hc1⟩:=HUS.out i hiu
    have hsn:u[i]<n:=Ko HLT.out hiu
    have hsm:u[i]<many.length:=by rw [HLN.out]; exact hsn
    obtain ⟨bm,om,rfl,hc2,r1,r2⟩:=(HI.out.pure HU.out).cell u[i] hsm
    have hc3:=(HU.out.at (jc hc1) (by simp) (o+i)).trans hc1
    have HLT2:Hid (lvs many (u.take (i+1))=lvs many (u.take i)++[.leaf (yr many[u[i]]) u[i]]):=Lib.hid (by rw [zfq many u i hiu]; simp [List.getD_eq_getElem?_getD,hsm])
    generalize many[u[i]]=m at *
    generalize u[i]=s at *
    have hNle:=zat m
    have HNR:=Lib.hid (fun w=>Yb m w)
    generalize yr m=N at *
    have hw1:IntKind.i64.wrap ((i:Int)+1)=((i+1:Nat):Int):=by rw [IntWalk.i64_in _ (by omega)]; rfl
    have hsz:(s:Int)<(n:Int):=by omega
    obtain ⟨va,vc,rfl⟩:=HO.out.form
    have hpl:=HPL.out
    rw [hpl] at HO ⊢
    clear hiu hsm hc1 hpl
    go_wp2_with fail
    refine (HNR.out _).mono ?_
    rintro e w' ⟨rfl,rfl⟩
    have hRz:=(HO.out.1.alloc (.cells #[.int .i64 (N:Nat),.int .i64 (s:Nat),.slice none 0 0] 262)).alloc (.cells #[.pointer (some ⟨wr.heap.size,0,none⟩)] 260)
    rw [HPL.out] at hRz
    go_wp2_with (at_builtin; refine zz _ rfl _ _ 259 rfl 260 i0 _ 1 8 Tryz.underlying259 hi hz0 hz1 hz2 rfl (by omega) (.slice va i vc) i _ rfl hRz ⟨wr.heap.size+1,0,none⟩ 1 1 [.pointer (some ⟨wr.heap.size,0,none⟩)] rfl rfl (ziV _ _ _ _ _ rfl) (by simp [Value.oneCell']) (by unfold maxLen; omega) (by omega) ?_)
    intro v4 w4 hR4 hU4 hT4
    have hmm:Upd [] wr ((wr.alloc (.cells #[.int .i64 (N:Nat),.int .i64 (s:Nat),.slice none 0 0] 262)).alloc (.cells #[.pointer (some ⟨wr.heap.size,0,none⟩)] 260)):=((Upd.refl _ _).alloc _).alloc _
    have hap:=(HO.out.upd hmm).app (HU.out.then hmm) (ys:=[.pointer (some ⟨wr.heap.size,0,none⟩)]) (by rw [HPL.out]; exact hR4) hU4 hT4
    have hnb:Blk w4 wr.heap.size [.int .i64 (N:Nat),.int .i64 (s:Nat),.slice none 0 0] 262:=((Blk.new wr [.int .i64 (N:Nat),.int .i64 (s:Nat),.slice none 0 0] 262).alloc (.cells #[.pointer (some ⟨wr.heap.size,0,none⟩)] 260)).upd hU4 (fun hm=>by have:=HO.out.1.lt _ (by simpa using hm); omega)
    have hcs:CoinsAt w4 (ps++[.pointer (some ⟨wr.heap.size,0,none⟩)]) (lvs many (u.take (i+1))):=by
     rw [HLT2.out]
     exact (zhf (HC.out.upd hmm) hU4 (fun q cs hq hm=>((HO.out.1.alloc (.cells #[.int .i64 (N:Nat),.int .i64 (s:Nat),.slice none 0 0] 262)).alloc (.cells #[.pointer (some ⟨wr.heap.size,0,none⟩)] 260)).neB hq (by decide) (by simpa using hm))).snoc ⟨_,rfl,hnb⟩
    have hx4:=(HX.out.upd hmm (by simp)).upd hU4 (fun hm=>(HO.out.1.neB HX.out (by decide)) (by simpa using hm))
    have HAP:=Lib.hid hap
    have HCS:=Lib.hid hcs
    have HX4:=Lib.hid hx4
    clear hap hcs hx4 hnb hmm hR4 hU4 hT4 hRz
    go_wp2
    go_roundg (1000-(i+1))
    · exact ⟨i+1,_,by omega,rfl,by first | rfl | go_num,Lib.hid HAP.out.1,HCS,Lib.hid (by rw [List.length_append,HPL.out]; rfl),Lib.hid HAP.out.2,HX4⟩
    · omega
  · have hcz : ¬ (i:Int)<(k:Int):=by omega
    obtain rfl:i=k:=by omega
    have HC1:Hid (CoinsAt wr ps (lvs many u)):=Lib.hid (by have:=HC.out; rwa [List.take_of_length_le (by rw [HK.out]; exact Nat.le_refl _)] at this)
    clear HC
    have HU1:=HU
    have HX1:=HX
    have HO1:=HO
    clear HU HX HO
    have HRL:Hid (∀ j,(zW (lvs many u) j).length≤2*i):=Lib.hid (fun j=>by have:=zaV (lvs many u) j; rw [zcG,HK.out] at this; exact this)
    have HRW:Hid (∀ j,j<L → ∀ c∈zW (lvs many u) j,c.w≤70368744177664):=Lib.hid (fun j hj c hcm=>by
     have h1:=zbr (lvs many u) _ (zi1 many u) j c hcm
     have h3:2^j≤2^15:=Nat.pow_le_pow_right (by omega) (by omega)
     have h4:=Nat.mul_le_mul_left 1073741824 h3
     omega)
    generalize hlv:lvs many u=lv at *
    go_wp2
    obtain ⟨wo,hwo⟩ : ∃ wo:World,wo=wr:=⟨_,rfl⟩
    subst hwo
    go_loopg [11,34] 1000 (fun gg s11 s34 wr => ∃ (j:Nat) (qs:List Value),j≤L∧gg=1000-j∧s34 = .int .i64 (j:Nat)∧Hid (OwnC w wr s11 qs)∧Hid (CoinsAt wr qs (zW lv j))∧Hid (Upd [] wo wr))
    case atStart=>exact ⟨0,[],by omega,rfl,rfl,Lib.hid (OwnC.nil _ _),Lib.hid (CoinsAt.nil _),Lib.hid (Upd.refl _ _)⟩
    case round =>
     obtain ⟨j,qs,hjL,rfl,rfl,HO,HC,HU⟩:=hrel
     have HQL:Hid (qs.length=(zW lv j).length):=Lib.hid HC.out.1
     by_cases hc2:j<L
     · have hcz2:(j:Int)<(L:Int):=by omega
       have hw1:IntKind.i64.wrap ((j:Int)+1)=((j+1:Nat):Int):=by rw [IntWalk.i64_in _ (by omega)]; rfl
       have HP:=Lib.hid (za7 _ qs _ _ HO.out.1 HC.out (by have h1:=HRL.out j; have h3:=HQL.out; omega) (HRW.out j hc2))
       go_wp2_with fail
       refine HP.out.mono ?_
       rintro e w1 ⟨v1,q1,rfl,hO1,hC1,hU1⟩
       have HM:=Lib.hid (zbT _ v1 ps q1 lv _ w1 ((HO1.out.slC.upd HU.out).upd hU1) hO1.slC ((HC1.out.upd HU.out).upd hU1) hC1 (by have:=HPL.out; omega) (by rw [hC1.1,yN]; have:=HRL.out j; omega) (by have:=HPL.out; omega))
       have HU2:=Lib.hid (HU.out.then hU1)
       clear hO1 hC1 hU1
       go_wp2_with fail
       refine HM.out.mono ?_
       rintro e w2 ⟨v2,q2,rfl,hO2,hC2,hU2⟩
       have HO2:=Lib.hid (hO2.base (w0:=w) (by have h1:=HU1.out.size; have h3:=HU2.out.size; omega))
       have HC2:=Lib.hid hC2
       have HU3:=Lib.hid (HU2.out.then hU2)
       clear hO2 hC2 hU2 HP HM
       go_wp2
       go_roundg (1000-(j+1))
       · exact ⟨j+1,q2,by omega,rfl,by first | rfl | go_num,HO2,HC2,HU3⟩
       · omega
     · have hcz2 : ¬ (j:Int)<(L:Int):=by omega
       obtain rfl:j=L:=by omega
       obtain ⟨M,hM⟩ : ∃ M:Nat,M=2*i-2:=⟨_,rfl⟩
       have hMz:2*(i:Int)-2=(M:Int):=by omega
       have hMq:M≤qs.length:=by rw [HQL.out,hM]; exact HROW.out
       obtain ⟨g,c3,rfl,hg,hle⟩:=HO.out.1.form' (by omega)
       obtain ⟨Q,hQ⟩ : ∃ Q,qs.length=Q:=⟨_,rfl⟩
       rw [hQ] at HO hMq hle HQL
       have hMc:(M:Int)≤(c3:Int):=by omega
       have HMI:=Lib.hid hM
       have hQQ:=Lib.hid hQ
       clear hQ hM
       rw [hQQ.out]
       have HEND:Hid (qV (List.replicate n 0) ((zW lv j).take M)=(List.range n).map fun s=>qt many u j s):=Lib.hid (by
        have:=zgH many u j n
        rw [hlv,HK.out,← HMI.out] at this
        exact this)
       have HBD:Hid (∀ m (h:m<(zW lv j).length),qY ((zW lv j).take m)+(zW lv j)[m].many≤5000):=Lib.hid (fun m h=>by
        have h1:=zet (zW lv j) m h
        have h3:=YP lv j
        have h4:qY lv=i:=by rw [← hlv,zgj,HK.out]
        rw [h4] at h3
        have h5:i*j≤300*15:=Nat.mul_le_mul (by omega) (by omega)
        omega)
       have HSY:Hid (∀ c∈zW lv j,c.syms n):=Lib.hid (QZ lv n (by rw [← hlv]; exact zgD many u n HLT.out) j)
       clear hlv
       go_wp2
       have hF3:Blk (wr.alloc (.cells #[.func (.func 218) #[] #[.pointer (some ⟨w.heap.size,0,none⟩),.pointer (some ⟨wr.heap.size,0,none⟩)]] 266)) wr.heap.size [.func (.func 218) #[] #[.pointer (some ⟨w.heap.size,0,none⟩),.pointer (some ⟨wr.heap.size,0,none⟩)]] 266:=Blk.new wr _ _
       have hU3:Upd [] w (wr.alloc (.cells #[.func (.func 218) #[] #[.pointer (some ⟨w.heap.size,0,none⟩),.pointer (some ⟨wr.heap.size,0,none⟩)]] 266)):=(HU1.out.then HU.out).alloc _
       have hX3:=(HX1.out.upd HU.out (by simp)).alloc (.cells #[.func (.func 218) #[] #[.pointer (some ⟨w.heap.size,0,none⟩),.pointer (some ⟨wr.heap.size,0,none⟩)]] 266)
       have hR3:=HO.out.1.alloc (.cells #[.func (.func 218) #[] #[.pointer (some ⟨w.heap.size,0,none⟩),.pointer (some ⟨wr.heap.size,0,none⟩)]] 266)
       rw [hQQ.out] at hR3
       have hC3:=HC.out.upd ((Upd.refl [] wr).alloc (.cells #[.func (.func 218) #[] #[.pointer (some ⟨w.heap.size,0,none⟩),.pointer (some ⟨wr.heap.size,0,none⟩)]] 266))
       generalize wr.alloc (.cells #[.func (.func 218) #[] #[.pointer (some ⟨w.heap.size,0,none⟩),.pointer (some ⟨wr.heap.size,0,none⟩)]] 266)=w3 at *
       generalize wr.heap.size=bc at *
       have hB3:=HBo.out.upd hU3 (by simp)
       have HF3:=Lib.hid hF3
       have HU3:=Lib.hid hU3
       have HX3:=Lib.hid hX3
       have HR3:=Lib.hid hR3
       have HC3:=Lib.hid hC3
       have HB3:=Lib.hid hB3
       have HN1:=Lib.hid (hX3.neT hB3 (by decide))
       have HN2:=Lib.hid (hF3.neT hB3 (by decide))
       have HN3:Hid (g≠ob):=Lib.hid (fun e=>hR3.neB hB3 (by decide) (by rw [e]; rfl))
       clear hF3 hU3 hX3 hR3 hC3 hB3 hg
       go_loopg [49] 1000 (fun gg s49 wr => ∃ m:Nat,m≤M∧gg=1000-m∧s49 = .int .i64 (m:Nat)∧Hid (Blk wr ob (zg (qV (List.replicate n 0) ((zW lv j).take m))) 3)∧Hid (Upd [ob] w3 wr))
       case atStart=>exact ⟨0,by omega,rfl,rfl,HB3,Lib.hid (Upd.refl _ _)⟩
       case round =>
        obtain ⟨m,hmM,rfl,rfl,HBm,HUm⟩:=hrel
        by_cases hc3:m<M
        · have hcz3:(m:Int)<(M:Int):=by omega
          have hw1:IntKind.i64.wrap ((m:Int)+1)=((m+1:Nat):Int):=by rw [IntWalk.i64_in _ (by omega)]; rfl
          have hmq:m<qs.length:=by rw [hQQ.out]; omega
          have hmr:m<(zW lv j).length:=by rw [← HC3.out.1]; exact hmq
          have hcm:=(HUm.out.at (HR3.out.lt g rfl) (by simpa using HN3.out) m).trans (HR3.out.cell m (List.getElem?_eq_getElem hmq))
          have f1:=(HF3.out.upd HUm.out (by simpa using HN2.out)).cell 0 rfl
          have HCT:=Lib.hid (Qy n cap w.heap.size bc ob (zW lv j)[m] qs[m] _ _ ((HC3.out.2 m _ _ (List.getElem?_eq_getElem hmq) (List.getElem?_eq_getElem hmr)).keep (KeepC.of_ints HB3.out HUm.out)) (HSY.out _ (List.getElem_mem hmr)) (by rw [Jk,List.length_replicate]) HBm.out
           (HX3.out.upd HUm.out (by simpa using HN1.out)) (HF3.out.upd HUm.out (by simpa using HN2.out)) (fun s=>by
            have h1:=WH ((zW lv j).take m) (List.replicate n 0) s
            have h3:(List.replicate n 0).getD s 0=0:=by
             by_cases h:s<n
             · simp [List.getD_eq_getElem?_getD,h]
             · simp [List.getD_eq_getElem?_getD,h]
            have h4:=HBD.out m hmr
            omega))
          have HST:Hid (qV (List.replicate n 0) ((zW lv j).take (m+1))=qo (qV (List.replicate n 0) ((zW lv j).take m)) (zW lv j)[m]):=Lib.hid (by rw [List.take_succ_eq_append_getElem hmr,zcf])
          generalize qs[m]=p at *
          generalize (zW lv j)[m]=c at *
          clear hmq hmr
          go_wp2_with fail
          refine HCT.out.mono ?_
          rintro e w4 ⟨rfl,hB4,hU4⟩
          rw [← HST.out] at hB4
          have HB4:=Lib.hid hB4
          have HU4:=Lib.hid (HUm.out.then hU4)
          clear hB4 hU4 HCT
          go_wp2
          go_roundg (1000-(m+1))
          · exact ⟨m+1,by omega,rfl,by first | rfl | go_num,HB4,HU4⟩
          · omega
        · have hcz3 : ¬ (m:Int)<(M:Int):=by omega
          obtain rfl:m=M:=by omega
          go_wp2
          go_end0
          exact ⟨rfl,by rw [← HEND.out]; exact HBm.out,(HU3.out.mono (fp':=[ob]) (fun q hq=>by simp at hq)).then HUm.out⟩
end Go.Proofs.YtfkcdnaghndgfaaGreatDoor
namespace Go.Proofs.YtfkcdnaghndgfaaGreatDoor
open Go.RowKit
theorem Qn {W w:World} {p:Addr} {v:Value} (h : ∃ os,w=Go.Sort.grow W.drew os) (hc:W.cell? p=some v):w.cell? p=some v:=by
 obtain ⟨os,rfl⟩:=h
 exact (Go.Sort.cell?_grow W.drew os p (World.block_lt_of_cell? W _ hc)).trans hc
theorem zeQ {W w:World} {o:Obj} (h : ∃ os,w=Go.Sort.grow W.drew os) : ∃ os,w.alloc o=Go.Sort.grow W.drew os:=by
 obtain ⟨os,rfl⟩:=h
 exact ⟨os ++ #[o],by rw [Go.Sort.alloc_eq_grow,Go.Sort.grow_grow]⟩
def cfN (many:List Int) (x y:Nat):Int:=orN (QW (yr (many.getD x 0)) (yr (many.getD y 0))) (QW x y)
set_option maxRecDepth 100000 in
set_option maxHeartbeats 3200000 in
theorem WL (many:List Int) (a:Option Addr) (n cap bx x y:Nat) (W:World) (hb:W.cell? ⟨bx,0,none⟩=some (.slice a n cap)) (hI:IntsIn W a n many) (hx:x<n) (hy:y<n) (hn:n≤1000000) :
 Calls Tryz.prog 194 #[.int .i64 (x:Nat),.int .i64 (y:Nat),.pointer (some ⟨bx,0,none⟩)] W fun e w'=>e = .returned (.int .i64 (cfN many x y)) ∧ ∃ q os,w'=Go.Sort.grow (W.drewN q) os:=by
 have hx1:x<many.length:=by rw [hI.len]; exact hx
 have hy1:y<many.length:=by rw [hI.len]; exact hy
 obtain ⟨b,off,rfl,hc1,r1,r2⟩:=hI.cell x hx1
 obtain ⟨b',off',hbo,hc2,r3,r4⟩:=hI.cell y hy1
 injection hbo with hbo
 injection hbo with e1 e2
 subst e1 e2
 have HCF:Hid (cfN many x y=orN (QW (yr many[x]) (yr many[y])) (QW x y)):=Lib.hid (by unfold cfN; simp [List.getD_eq_getElem?_getD,hx1,hy1])
 generalize many[x]=v1 at *
 generalize many[y]=v2 at *
 have HN1:=Lib.hid (fun w=>Yb v1 w)
 have HN2:=Lib.hid (fun w=>Yb v2 w)
 generalize yr v1=N1 at *
 generalize yr v2=N2 at *
 have HC1:=Lib.hid (fun w=>Zk N1 N2 w)
 have HC2:=Lib.hid (fun w=>Zk x y w)
 have hxz:(x:Int)<(n:Int):=by omega
 have hyz:(y:Int)<(n:Int):=by omega
 clear hI hx1 hy1
 go_enter Tryz.func194,Tryz.ntmps194
 go_wp2
 refine wp_region_held_drew (S:=fun w' => ∃ os,w'=Go.Sort.grow W.drew os) (by kernel_rfl) ⟨#[],by rw [Go.Sort.grow_empty]⟩ (fun hHeld=>hdN ?_)
 refine hdT 0 (some 6) ?_ (hy:=by intro w hSw; have q0:=Qn hSw hb; go_simp; try with_reducible rfl); refine hdT 1 (some 7) ?_
 refine hdT 2 (some 8) ?_; refine hdT 3 (some 9) ?_ (hy:=by intro w hSw; have q0:=Qn hSw hc1; go_simp; try with_reducible rfl)
 refine hdT 5 (some 11) ?_ (hy:=by intro w hSw; have q0:=Qn hSw hb; go_simp; try with_reducible rfl); refine hdT 6 (some 12) ?_
 refine hdT 7 (some 13) ?_; refine hdT 8 (some 14) ?_ (hy:=by intro w hSw; have q0:=Qn hSw hc2; go_simp; try with_reducible rfl)
 refine hdT 11 (some 17) ?_; refine hdT 12 (some 18) ?_
 refine hdO 4 (fun K hK=>?_)
 go_simp
 refine (HN1.out _).mono ?_
 rintro e z ⟨rfl,rfl⟩
 go_wp2
 refine hK.out _ _ hHeld (fun hHeld=>hdN ?_)
 clear hK K
 refine hdO 9 (fun K hK=>?_)
 go_simp
 refine (HN2.out _).mono ?_
 rintro e z ⟨rfl,rfl⟩
 go_wp2
 refine hK.out _ _ hHeld (fun hHeld=>hdN ?_)
 clear hK K
 refine hdO 10 (fun K hK=>?_)
 go_simp
 refine (HC1.out _).mono ?_
 rintro e z ⟨rfl,rfl⟩
 go_wp2
 refine hK.out _ _ hHeld (fun hHeld=>hdN ?_)
 clear hK K
 refine hdO 13 (fun K hK=>?_)
 go_simp
 refine (HC2.out _).mono ?_
 rintro e z ⟨rfl,rfl⟩
 go_wp2
 refine hK.out _ _ hHeld (fun hHeld=>hdN ?_)
 clear hK K
 refine hdO 14 (fun K hK=>?_)
 go_simp
 skip
 go_wp2
 refine hK.out _ _ (zeQ hHeld) (fun hHeld=>hdN ?_)
 clear hK K
 refine hdO 15 (fun K hK=>?_)
 go_simp
 refine (ziN _ _ _ _ ((Blk.new W [.int .i64 (QW N1 N2),.int .i64 (QW x y)] 3).drew.cell 0 rfl) ((Blk.new W [.int .i64 (QW N1 N2),.int .i64 (QW x y)] 3).drew.cell 1 rfl)).mono ?_
 rintro e z ⟨rfl,rfl⟩
 go_wp2
 refine hK.out _ _ hHeld (fun hHeld=>hdN ?_)
 clear hK K
 refine hdT 16 (some 5) ?_
 refine wpAnyH_done (by kernel_rfl) ?_ 0
 go_wp2
 go_ret
 obtain ⟨os,hos⟩:=hHeld
 exact ⟨by rw [HCF.out]; rfl,1,os,hos⟩
end Go.Proofs.YtfkcdnaghndgfaaGreatDoor
namespace Go.Proofs.YtfkcdnaghndgfaaGreatDoor
open Go.RowKit
theorem QT {α:Type} [Inhabited α] (enc:α→Value) (w:World) (blk off m:Nat) (d:Array α) (os:Array Obj):Upd [blk] w (sortWorld enc w blk off m d os):=by
 unfold sortWorld
 refine ⟨rfl,rfl,rfl,by simp,fun k hk hn=>?_⟩
 have hb:blk≠k:=fun e=>hn (by simp [e])
 rw [Sort.heap_grow_old _ _ (by simpa using hk)]
 simp [Sort.putRow,Sort.mapBlock,Array.getElem?_modify,hb]
theorem ze0 {α:Type} [Inhabited α] (enc:α→Value) (w:World) (blk m k cap:Nat) (e:TypeId) (d:List α) (xs:List Value) (os:Array Obj) (hd:d.length=k) (hR:Row w e 1 (.slice (some ⟨blk,0,none⟩) k cap) k xs) :
 Row (sortWorld enc w blk 0 m d.toArray os) e 1 (.slice (some ⟨blk,0,none⟩) k cap) k (d.map enc):=by
 obtain ⟨h1,h2⟩:=hR
 rcases h2 with ⟨e1,_⟩ | ⟨g,c,cur,e1,hb,hh,hc,hm,hs,ht⟩
 · cases e1
 · injection e1 with e1 e2 e3
   injection e1 with e1
   injection e1 with e1 e4
   subst e1 e3
   have hlt:blk<w.heap.size:=(Array.getElem?_eq_some_iff.1 hh).1
   refine ⟨by simp [hd],.inr ⟨blk,cap,Sort.putCells enc 0 d.toArray cur,rfl,Nat.zero_le _,?_,hc,hm,by simp [Sort.putCells,hs],?_⟩⟩
   · unfold sortWorld
     rw [Sort.heap_grow_old _ _ (by simpa using hlt)]
     simp [Sort.putRow,Sort.mapBlock,Array.getElem?_modify,Sort.ahead,hh,Sort.onCells]
   · apply List.ext_getElem?
     intro i
     rw [List.getElem?_take]
     by_cases hi:i<k
     · rw [if_pos (by omega)]
       have hic:i<cur.size:=by omega
       simp [Sort.putCells,hi,hd,hic,List.getElem?_eq_getElem (show i<d.length by omega)]
     · rw [if_neg (by omega),List.getElem?_eq_none (by simp; omega)]
end Go.Proofs.YtfkcdnaghndgfaaGreatDoor
