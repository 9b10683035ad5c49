/- Package lens: fill: its walk. -/
import Derived.Laws.EntriesVeiled
import Derived.Test.YtfkcdnaghndgfaaGreatDoorQBI
import Derived.Test.YtfkcdnaghndgfaaGreatDoorQBJ
import Derived.Sort.Grow
import Derived.Test.YtfkcdnaghndgfaaGreatDoorQBH
import Derived.Test.YtfkcdnaghndgfaaGreatDoorQAR
import Derived.Shelf.SlSortCmp.NoneTotal
import Derived.Test.YtfkcdnaghndgfaaGreatDoorQAA
import Derived.Test.YtfkcdnaghndgfaaGreatDoorProg
set_option linter.unusedVariables false
set_option linter.unusedSimpArgs false
set_option linter.unusedSectionVars false
namespace Go.Proofs.YtfkcdnaghndgfaaGreatDoor
open Go.RowKit
theorem ziW (w:World) (cs:Array Value) (t:TypeId) (p:Value) (e:TypeId) (hp:p.oneCell'=true) : ∀ j u,[p][j]? =some u→((w.alloc (.cells cs t)).alloc (.cells #[p] e)).cell? ((⟨w.heap.size+1,0,none⟩:Addr).add j)=some u:=zib w cs t p e hp
theorem OwnC.base {w0 w1 w:World} {v:Value} {xs:List Value} (h:OwnC w1 w v xs) (hs:w0.heap.size≤w1.heap.size):OwnC w0 w v xs:=⟨h.1,fun k hk=>Nat.le_trans hs (h.2 k hk)⟩
theorem zhj {w w':World} {ps:List Value} {many:List Int} {u fp:List Nat} (h:CoinsAt w ps (lvs many u)) (hU:Upd fp w w') (hf : ∀ b cs,Blk w b cs 262→b∉fp):CoinsAt w' ps (lvs many u) :=
 ⟨h.1,fun i p c h1 h2=>by
  have h3:=h.2 i p c h1 h2
  obtain ⟨s,_,rfl⟩ : ∃ s,s∈u∧Coin.leaf (yr (many.getD s 0)) s=c:=by
   have:=List.mem_of_getElem? h2
   unfold lvs at this
   exact List.mem_map.1 this
  obtain ⟨b,rfl,hB⟩:=h3
  exact ⟨b,rfl,hB.upd hU (hf b _ hB)⟩⟩
theorem KN {u:List Nat} {n i:Nat} (h : ∀ s∈u,s<n) (hi:i<u.length):u[i]<n:=h _ (List.getElem_mem hi)
set_option maxRecDepth 100000 in
set_option maxHeartbeats 6400000 in
theorem zfW (many:List Int) (u:List Nat) (L n cap ob k cu cm:Nat) (au am:Option Addr) (w:World) (hB:Blk w ob (zf (List.replicate n 0)) 3)
 (hus : ∀ i (h:i<u.length),∃ b o,au=some ⟨b,o,none⟩∧w.cell? ⟨b,o+i,none⟩=some (.int .i64 (u[i]:Nat))) (hI:IntsIn w am n many) (hn:n≤300) (hL:L≤15) (hk:u.length=k) (h2:2≤k) (hun:k≤n) (hlt : ∀ s∈u,s<n)
 (hrow:2*k-2≤(zQ (lvs many u) L).length) :
 Calls Tryz.prog 191 #[.slice (some ⟨ob,0,none⟩) n cap,.slice au k cu,.slice am n cm,.int .i64 (L:Nat)] w fun e w'=>e = .returned (.tuple #[])∧Blk w' ob (zf ((List.range n).map fun s=>qF many u L s)) 3∧Upd [ob] w w':=by
 obtain ⟨i0,hi,hz0,hz1,hz2⟩:=info_parts Xd
 have HBo:=Lib.hid hB
 have HUS:=Lib.hid hus
 have HI:=Lib.hid hI
 have HLT:=Lib.hid hlt
 have HK:=Lib.hid hk
 have HROW:=Lib.hid hrow
 have HLN:=Lib.hid hI.len
 clear hB hus hI hlt hk hrow
 have hLz:(L:Int)≤15:=by omega
 go_enter Tryz.func191,Tryz.ntmps191
 go_wp2
 go_loopg [8,17] 1000 (fun gg s8 s17 wr => ∃ (i:Nat) (ps:List Value),i≤k∧gg=1000-i∧s17 = .int .i64 (i:Nat)∧Hid (OwnC w wr s8 ps)∧Hid (CoinsAt wr ps (lvs many (u.take i)))∧Hid (ps.length=i)∧Hid (Upd [] w wr)∧Hid (Blk wr w.heap.size [.slice (some ⟨ob,0,none⟩) n cap] 98))
 case atStart=>exact ⟨0,[],by omega,rfl,rfl,Lib.hid (OwnC.nil _ _),Lib.hid (CoinsAt.nil _),Lib.hid rfl,Lib.hid ((Upd.refl _ _).alloc _),Lib.hid (Blk.new w _ _)⟩
 case round =>
  obtain ⟨i,ps,hik,rfl,rfl,HO,HC,HPL,HU,HX⟩:=hrel
  by_cases hc:i<k
  · have hcz:(i:Int)<(k:Int):=by omega
    have hiu:i<u.length:=by rw [HK.out]; exact hc
    obtain ⟨b,o,rfl,hc1⟩:=HUS.out i hiu
    have hsn:u[i]<n:=KN HLT.out hiu
    have hsm:u[i]<many.length:=by rw [HLN.out]; exact hsn
    obtain ⟨bm,om,rfl,hc2,r1,r2⟩:=(HI.out.pure HU.out).cell u[i] hsm
    have hc3:=(HU.out.at (jl hc1) (by simp) (o+i)).trans hc1
    have HLT2:Hid (lvs many (u.take (i+1))=lvs many (u.take i)++[.leaf (yr many[u[i]]) u[i]]):=Lib.hid (by rw [zgz many u i hiu]; simp [List.getD_eq_getElem?_getD,hsm])
    generalize many[u[i]]=m at *
    generalize u[i]=s at *
    have hNle:=zar m
    have HNR:=Lib.hid (fun w=>Xo m w)
    generalize yr m=N at *
    have hw1:IntKind.i64.wrap ((i:Int)+1)=((i+1:Nat):Int):=by rw [IntWalk.i64_in _ (by omega)]; rfl
    have hsz:(s:Int)<(n:Int):=by omega
    obtain ⟨va,vc,rfl⟩:=HO.out.form
    have hpl:=HPL.out
    rw [hpl] at HO ⊢
    clear hiu hsm hc1 hpl
    go_wp2_with fail
    refine (HNR.out _).mono ?_
    rintro e w' ⟨rfl,rfl⟩
    have hRz:=(HO.out.1.alloc (.cells #[.int .i64 (N:Nat),.int .i64 (s:Nat),.slice none 0 0] 262)).alloc (.cells #[.pointer (some ⟨wr.heap.size,0,none⟩)] 260)
    rw [HPL.out] at hRz
    go_wp2_with (at_builtin; refine zC _ rfl _ _ 259 rfl 260 i0 _ 1 8 Tryz.underlying259 hi hz0 hz1 hz2 rfl (by omega) (.slice va i vc) i _ rfl hRz ⟨wr.heap.size+1,0,none⟩ 1 1 [.pointer (some ⟨wr.heap.size,0,none⟩)] rfl rfl (ziW _ _ _ _ _ rfl) (by simp [Value.oneCell']) (by unfold maxLen; omega) (by omega) ?_)
    intro v4 w4 hR4 hU4 hT4
    have hmm:Upd [] wr ((wr.alloc (.cells #[.int .i64 (N:Nat),.int .i64 (s:Nat),.slice none 0 0] 262)).alloc (.cells #[.pointer (some ⟨wr.heap.size,0,none⟩)] 260)):=((Upd.refl _ _).alloc _).alloc _
    have hap:=(HO.out.upd hmm).app (HU.out.then hmm) (ys:=[.pointer (some ⟨wr.heap.size,0,none⟩)]) (by rw [HPL.out]; exact hR4) hU4 hT4
    have hnb:Blk w4 wr.heap.size [.int .i64 (N:Nat),.int .i64 (s:Nat),.slice none 0 0] 262:=((Blk.new wr [.int .i64 (N:Nat),.int .i64 (s:Nat),.slice none 0 0] 262).alloc (.cells #[.pointer (some ⟨wr.heap.size,0,none⟩)] 260)).upd hU4 (fun hm=>by have:=HO.out.1.lt _ (by simpa using hm); omega)
    have hcs:CoinsAt w4 (ps++[.pointer (some ⟨wr.heap.size,0,none⟩)]) (lvs many (u.take (i+1))):=by
     rw [HLT2.out]
     exact (zhj (HC.out.upd hmm) hU4 (fun q cs hq hm=>((HO.out.1.alloc (.cells #[.int .i64 (N:Nat),.int .i64 (s:Nat),.slice none 0 0] 262)).alloc (.cells #[.pointer (some ⟨wr.heap.size,0,none⟩)] 260)).neB hq (by decide) (by simpa using hm))).snoc ⟨_,rfl,hnb⟩
    have hx4:=(HX.out.upd hmm (by simp)).upd hU4 (fun hm=>(HO.out.1.neB HX.out (by decide)) (by simpa using hm))
    have HAP:=Lib.hid hap
    have HCS:=Lib.hid hcs
    have HX4:=Lib.hid hx4
    clear hap hcs hx4 hnb hmm hR4 hU4 hT4 hRz
    go_wp2
    go_roundg (1000-(i+1))
    · exact ⟨i+1,_,by omega,rfl,by first | rfl | go_num,Lib.hid HAP.out.1,HCS,Lib.hid (by rw [List.length_append,HPL.out]; rfl),Lib.hid HAP.out.2,HX4⟩
    · omega
  · have hcz : ¬ (i:Int)<(k:Int):=by omega
    obtain rfl:i=k:=by omega
    have HC1:Hid (CoinsAt wr ps (lvs many u)):=Lib.hid (by have:=HC.out; rwa [List.take_of_length_le (by rw [HK.out]; exact Nat.le_refl _)] at this)
    clear HC
    have HU1:=HU
    have HX1:=HX
    have HO1:=HO
    clear HU HX HO
    have HRL:Hid (∀ j,(zQ (lvs many u) j).length≤2*i):=Lib.hid (fun j=>by have:=WQ (lvs many u) j; rw [zcV,HK.out] at this; exact this)
    have HRW:Hid (∀ j,j<L → ∀ c∈zQ (lvs many u) j,c.w≤70368744177664):=Lib.hid (fun j hj c hcm=>by
     have h1:=zbd (lvs many u) _ (zi1 many u) j c hcm
     have h3:2^j≤2^15:=Nat.pow_le_pow_right (by omega) (by omega)
     have h4:=Nat.mul_le_mul_left 1073741824 h3
     omega)
    generalize hlv:lvs many u=lv at *
    go_wp2
    obtain ⟨wo,hwo⟩ : ∃ wo:World,wo=wr:=⟨_,rfl⟩
    subst hwo
    go_loopg [11,34] 1000 (fun gg s11 s34 wr => ∃ (j:Nat) (qs:List Value),j≤L∧gg=1000-j∧s34 = .int .i64 (j:Nat)∧Hid (OwnC w wr s11 qs)∧Hid (CoinsAt wr qs (zQ lv j))∧Hid (Upd [] wo wr))
    case atStart=>exact ⟨0,[],by omega,rfl,rfl,Lib.hid (OwnC.nil _ _),Lib.hid (CoinsAt.nil _),Lib.hid (Upd.refl _ _)⟩
    case round =>
     obtain ⟨j,qs,hjL,rfl,rfl,HO,HC,HU⟩:=hrel
     have HQL:Hid (qs.length=(zQ lv j).length):=Lib.hid HC.out.1
     by_cases hc2:j<L
     · have hcz2:(j:Int)<(L:Int):=by omega
       have hw1:IntKind.i64.wrap ((j:Int)+1)=((j+1:Nat):Int):=by rw [IntWalk.i64_in _ (by omega)]; rfl
       have HP:=Lib.hid (zb4 _ qs _ _ HO.out.1 HC.out (by have h1:=HRL.out j; have h3:=HQL.out; omega) (HRW.out j hc2))
       go_wp2_with fail
       refine HP.out.mono ?_
       rintro e w1 ⟨v1,q1,rfl,hO1,hC1,hU1⟩
       have HM:=Lib.hid (zbh _ v1 ps q1 lv _ w1 ((HO1.out.slC.upd HU.out).upd hU1) hO1.slC ((HC1.out.upd HU.out).upd hU1) hC1 (by have:=HPL.out; omega) (by rw [hC1.1,yP]; have:=HRL.out j; omega) (by have:=HPL.out; omega))
       have HU2:=Lib.hid (HU.out.then hU1)
       clear hO1 hC1 hU1
       go_wp2_with fail
       refine HM.out.mono ?_
       rintro e w2 ⟨v2,q2,rfl,hO2,hC2,hU2⟩
       have HO2:=Lib.hid (hO2.base (w0:=w) (by have h1:=HU1.out.size; have h3:=HU2.out.size; omega))
       have HC2:=Lib.hid hC2
       have HU3:=Lib.hid (HU2.out.then hU2)
       clear hO2 hC2 hU2 HP HM
       go_wp2
       go_roundg (1000-(j+1))
       · exact ⟨j+1,q2,by omega,rfl,by first | rfl | go_num,HO2,HC2,HU3⟩
       · omega
     · have hcz2 : ¬ (j:Int)<(L:Int):=by omega
       obtain rfl:j=L:=by omega
       obtain ⟨M,hM⟩ : ∃ M:Nat,M=2*i-2:=⟨_,rfl⟩
       have hMz:2*(i:Int)-2=(M:Int):=by omega
       have hMq:M≤qs.length:=by rw [HQL.out,hM]; exact HROW.out
       obtain ⟨g,c3,rfl,hg,hle⟩:=HO.out.1.form' (by omega)
       obtain ⟨Q,hQ⟩ : ∃ Q,qs.length=Q:=⟨_,rfl⟩
       rw [hQ] at HO hMq hle HQL
       have hMc:(M:Int)≤(c3:Int):=by omega
       have HMI:=Lib.hid hM
       have hQQ:=Lib.hid hQ
       clear hQ hM
       rw [hQQ.out]
       have HEND:Hid (jc (List.replicate n 0) ((zQ lv j).take M)=(List.range n).map fun s=>qF many u j s):=Lib.hid (by
        have:=zf6 many u j n
        rw [hlv,HK.out,← HMI.out] at this
        exact this)
       have HBD:Hid (∀ m (h:m<(zQ lv j).length),jd ((zQ lv j).take m)+(zQ lv j)[m].many≤5000):=Lib.hid (fun m h=>by
        have h1:=zeO (zQ lv j) m h
        have h3:=Vf lv j
        have h4:jd lv=i:=by rw [← hlv,zfy,HK.out]
        rw [h4] at h3
        have h5:i*j≤300*15:=Nat.mul_le_mul (by omega) (by omega)
        omega)
       have HSY:Hid (∀ c∈zQ lv j,c.syms n):=Lib.hid (QM lv n (by rw [← hlv]; exact zfM many u n HLT.out) j)
       clear hlv
       go_wp2
       have hF3:Blk (wr.alloc (.cells #[.func (.func 218) #[] #[.pointer (some ⟨w.heap.size,0,none⟩),.pointer (some ⟨wr.heap.size,0,none⟩)]] 266)) wr.heap.size [.func (.func 218) #[] #[.pointer (some ⟨w.heap.size,0,none⟩),.pointer (some ⟨wr.heap.size,0,none⟩)]] 266:=Blk.new wr _ _
       have hU3:Upd [] w (wr.alloc (.cells #[.func (.func 218) #[] #[.pointer (some ⟨w.heap.size,0,none⟩),.pointer (some ⟨wr.heap.size,0,none⟩)]] 266)):=(HU1.out.then HU.out).alloc _
       have hX3:=(HX1.out.upd HU.out (by simp)).alloc (.cells #[.func (.func 218) #[] #[.pointer (some ⟨w.heap.size,0,none⟩),.pointer (some ⟨wr.heap.size,0,none⟩)]] 266)
       have hR3:=HO.out.1.alloc (.cells #[.func (.func 218) #[] #[.pointer (some ⟨w.heap.size,0,none⟩),.pointer (some ⟨wr.heap.size,0,none⟩)]] 266)
       rw [hQQ.out] at hR3
       have hC3:=HC.out.upd ((Upd.refl [] wr).alloc (.cells #[.func (.func 218) #[] #[.pointer (some ⟨w.heap.size,0,none⟩),.pointer (some ⟨wr.heap.size,0,none⟩)]] 266))
       generalize wr.alloc (.cells #[.func (.func 218) #[] #[.pointer (some ⟨w.heap.size,0,none⟩),.pointer (some ⟨wr.heap.size,0,none⟩)]] 266)=w3 at *
       generalize wr.heap.size=bc at *
       have hB3:=HBo.out.upd hU3 (by simp)
       have HF3:=Lib.hid hF3
       have HU3:=Lib.hid hU3
       have HX3:=Lib.hid hX3
       have HR3:=Lib.hid hR3
       have HC3:=Lib.hid hC3
       have HB3:=Lib.hid hB3
       have HN1:=Lib.hid (hX3.neT hB3 (by decide))
       have HN2:=Lib.hid (hF3.neT hB3 (by decide))
       have HN3:Hid (g≠ob):=Lib.hid (fun e=>hR3.neB hB3 (by decide) (by rw [e]; rfl))
       clear hF3 hU3 hX3 hR3 hC3 hB3 hg
       go_loopg [49] 1000 (fun gg s49 wr => ∃ m:Nat,m≤M∧gg=1000-m∧s49 = .int .i64 (m:Nat)∧Hid (Blk wr ob (zf (jc (List.replicate n 0) ((zQ lv j).take m))) 3)∧Hid (Upd [ob] w3 wr))
       case atStart=>exact ⟨0,by omega,rfl,rfl,HB3,Lib.hid (Upd.refl _ _)⟩
       case round =>
        obtain ⟨m,hmM,rfl,rfl,HBm,HUm⟩:=hrel
        by_cases hc3:m<M
        · have hcz3:(m:Int)<(M:Int):=by omega
          have hw1:IntKind.i64.wrap ((m:Int)+1)=((m+1:Nat):Int):=by rw [IntWalk.i64_in _ (by omega)]; rfl
          have hmq:m<qs.length:=by rw [hQQ.out]; omega
          have hmr:m<(zQ lv j).length:=by rw [← HC3.out.1]; exact hmq
          have hcm:=(HUm.out.at (HR3.out.lt g rfl) (by simpa using HN3.out) m).trans (HR3.out.cell m (List.getElem?_eq_getElem hmq))
          have f1:=(HF3.out.upd HUm.out (by simpa using HN2.out)).cell 0 rfl
          have HCT:=Lib.hid (QT n cap w.heap.size bc ob (zQ lv j)[m] qs[m] _ _ ((HC3.out.2 m _ _ (List.getElem?_eq_getElem hmq) (List.getElem?_eq_getElem hmr)).keep (KeepC.of_ints HB3.out HUm.out)) (HSY.out _ (List.getElem_mem hmr)) (by rw [Jb,List.length_replicate]) HBm.out
           (HX3.out.upd HUm.out (by simpa using HN1.out)) (HF3.out.upd HUm.out (by simpa using HN2.out)) (fun s=>by
            have h1:=za0 ((zQ lv j).take m) (List.replicate n 0) s
            have h3:(List.replicate n 0).getD s 0=0:=by
             by_cases h:s<n
             · simp [List.getD_eq_getElem?_getD,h]
             · simp [List.getD_eq_getElem?_getD,h]
            have h4:=HBD.out m hmr
            omega))
          have HST:Hid (jc (List.replicate n 0) ((zQ lv j).take (m+1))=qE (jc (List.replicate n 0) ((zQ lv j).take m)) (zQ lv j)[m]):=Lib.hid (by rw [List.take_succ_eq_append_getElem hmr,zbw])
          generalize qs[m]=p at *
          generalize (zQ lv j)[m]=c at *
          clear hmq hmr
          go_wp2_with fail
          refine HCT.out.mono ?_
          rintro e w4 ⟨rfl,hB4,hU4⟩
          rw [← HST.out] at hB4
          have HB4:=Lib.hid hB4
          have HU4:=Lib.hid (HUm.out.then hU4)
          clear hB4 hU4 HCT
          go_wp2
          go_roundg (1000-(m+1))
          · exact ⟨m+1,by omega,rfl,by first | rfl | go_num,HB4,HU4⟩
          · omega
        · have hcz3 : ¬ (m:Int)<(M:Int):=by omega
          obtain rfl:m=M:=by omega
          go_wp2
          go_end0
          exact ⟨rfl,by rw [← HEND.out]; exact HBm.out,(HU3.out.mono (fp':=[ob]) (fun q hq=>by simp at hq)).then HUm.out⟩
end Go.Proofs.YtfkcdnaghndgfaaGreatDoor
namespace Go.Proofs.YtfkcdnaghndgfaaGreatDoor
open Go.RowKit
theorem JR {W w:World} {p:Addr} {v:Value} (h : ∃ os,w=Go.Sort.grow W.drew os) (hc:W.cell? p=some v):w.cell? p=some v:=by
 obtain ⟨os,rfl⟩:=h
 exact (Go.Sort.cell?_grow W.drew os p (World.block_lt_of_cell? W _ hc)).trans hc
theorem zed {W w:World} {o:Obj} (h : ∃ os,w=Go.Sort.grow W.drew os) : ∃ os,w.alloc o=Go.Sort.grow W.drew os:=by
 obtain ⟨os,rfl⟩:=h
 exact ⟨os ++ #[o],by rw [Go.Sort.alloc_eq_grow,Go.Sort.grow_grow]⟩
def cfN (many:List Int) (x y:Nat):Int:=orN (Qy (yr (many.getD x 0)) (yr (many.getD y 0))) (Qy x y)
set_option maxRecDepth 100000 in
set_option maxHeartbeats 3200000 in
theorem WM (many:List Int) (a:Option Addr) (n cap bx x y:Nat) (W:World) (hb:W.cell? ⟨bx,0,none⟩=some (.slice a n cap)) (hI:IntsIn W a n many) (hx:x<n) (hy:y<n) (hn:n≤1000000) :
 Calls Tryz.prog 194 #[.int .i64 (x:Nat),.int .i64 (y:Nat),.pointer (some ⟨bx,0,none⟩)] W fun e w'=>e = .returned (.int .i64 (cfN many x y)) ∧ ∃ q os,w'=Go.Sort.grow (W.drewN q) os:=by
 have hx1:x<many.length:=by rw [hI.len]; exact hx
 have hy1:y<many.length:=by rw [hI.len]; exact hy
 obtain ⟨b,off,rfl,hc1,r1,r2⟩:=hI.cell x hx1
 obtain ⟨b',off',hbo,hc2,r3,r4⟩:=hI.cell y hy1
 injection hbo with hbo
 injection hbo with e1 e2
 subst e1 e2
 have HCF:Hid (cfN many x y=orN (Qy (yr many[x]) (yr many[y])) (Qy x y)):=Lib.hid (by unfold cfN; simp [List.getD_eq_getElem?_getD,hx1,hy1])
 generalize many[x]=v1 at *
 generalize many[y]=v2 at *
 have HN1:=Lib.hid (fun w=>Xo v1 w)
 have HN2:=Lib.hid (fun w=>Xo v2 w)
 generalize yr v1=N1 at *
 generalize yr v2=N2 at *
 have HC1:=Lib.hid (fun w=>Zf N1 N2 w)
 have HC2:=Lib.hid (fun w=>Zf x y w)
 have hxz:(x:Int)<(n:Int):=by omega
 have hyz:(y:Int)<(n:Int):=by omega
 clear hI hx1 hy1
 go_enter Tryz.func194,Tryz.ntmps194
 go_wp2
 refine wp_region_held_drew (S:=fun w' => ∃ os,w'=Go.Sort.grow W.drew os) (by kernel_rfl) ⟨#[],by rw [Go.Sort.grow_empty]⟩ (fun hHeld=>hdN ?_)
 refine hdT 0 (some 6) ?_ (hy:=by intro w hSw; have q0:=JR hSw hb; go_simp; try with_reducible rfl); refine hdT 1 (some 7) ?_
 refine hdT 2 (some 8) ?_; refine hdT 3 (some 9) ?_ (hy:=by intro w hSw; have q0:=JR hSw hc1; go_simp; try with_reducible rfl)
 refine hdT 5 (some 11) ?_ (hy:=by intro w hSw; have q0:=JR hSw hb; go_simp; try with_reducible rfl); refine hdT 6 (some 12) ?_
 refine hdT 7 (some 13) ?_; refine hdT 8 (some 14) ?_ (hy:=by intro w hSw; have q0:=JR hSw hc2; go_simp; try with_reducible rfl)
 refine hdT 11 (some 17) ?_; refine hdT 12 (some 18) ?_
 refine hdO 4 (fun K hK=>?_)
 go_simp
 refine (HN1.out _).mono ?_
 rintro e z ⟨rfl,rfl⟩
 go_wp2
 refine hK.out _ _ hHeld (fun hHeld=>hdN ?_)
 clear hK K
 refine hdO 9 (fun K hK=>?_)
 go_simp
 refine (HN2.out _).mono ?_
 rintro e z ⟨rfl,rfl⟩
 go_wp2
 refine hK.out _ _ hHeld (fun hHeld=>hdN ?_)
 clear hK K
 refine hdO 10 (fun K hK=>?_)
 go_simp
 refine (HC1.out _).mono ?_
 rintro e z ⟨rfl,rfl⟩
 go_wp2
 refine hK.out _ _ hHeld (fun hHeld=>hdN ?_)
 clear hK K
 refine hdO 13 (fun K hK=>?_)
 go_simp
 refine (HC2.out _).mono ?_
 rintro e z ⟨rfl,rfl⟩
 go_wp2
 refine hK.out _ _ hHeld (fun hHeld=>hdN ?_)
 clear hK K
 refine hdO 14 (fun K hK=>?_)
 go_simp
 skip
 go_wp2
 refine hK.out _ _ (zed hHeld) (fun hHeld=>hdN ?_)
 clear hK K
 refine hdO 15 (fun K hK=>?_)
 go_simp
 refine (ziF _ _ _ _ ((Blk.new W [.int .i64 (Qy N1 N2),.int .i64 (Qy x y)] 3).drew.cell 0 rfl) ((Blk.new W [.int .i64 (Qy N1 N2),.int .i64 (Qy x y)] 3).drew.cell 1 rfl)).mono ?_
 rintro e z ⟨rfl,rfl⟩
 go_wp2
 refine hK.out _ _ hHeld (fun hHeld=>hdN ?_)
 clear hK K
 refine hdT 16 (some 5) ?_
 refine wpAnyH_done (by kernel_rfl) ?_ 0
 go_wp2
 go_ret
 obtain ⟨os,hos⟩:=hHeld
 exact ⟨by rw [HCF.out]; rfl,1,os,hos⟩
end Go.Proofs.YtfkcdnaghndgfaaGreatDoor
namespace Go.Proofs.YtfkcdnaghndgfaaGreatDoor
open Go.RowKit
theorem QX {α:Type} [Inhabited α] (enc:α→Value) (w:World) (blk off m:Nat) (d:Array α) (os:Array Obj):Upd [blk] w (sortWorld enc w blk off m d os):=by
 unfold sortWorld
 refine ⟨rfl,rfl,rfl,by simp,fun k hk hn=>?_⟩
 have hb:blk≠k:=fun e=>hn (by simp [e])
 rw [Sort.heap_grow_old _ _ (by simpa using hk)]
 simp [Sort.putRow,Sort.mapBlock,Array.getElem?_modify,hb]
theorem zeA {α:Type} [Inhabited α] (enc:α→Value) (w:World) (blk m k cap:Nat) (e:TypeId) (d:List α) (xs:List Value) (os:Array Obj) (hd:d.length=k) (hR:Row w e 1 (.slice (some ⟨blk,0,none⟩) k cap) k xs) :
 Row (sortWorld enc w blk 0 m d.toArray os) e 1 (.slice (some ⟨blk,0,none⟩) k cap) k (d.map enc):=by
 obtain ⟨h1,h2⟩:=hR
 rcases h2 with ⟨e1,_⟩ | ⟨g,c,cur,e1,hb,hh,hc,hm,hs,ht⟩
 · cases e1
 · injection e1 with e1 e2 e3
   injection e1 with e1
   injection e1 with e1 e4
   subst e1 e3
   have hlt:blk<w.heap.size:=(Array.getElem?_eq_some_iff.1 hh).1
   refine ⟨by simp [hd],.inr ⟨blk,cap,Sort.putCells enc 0 d.toArray cur,rfl,Nat.zero_le _,?_,hc,hm,by simp [Sort.putCells,hs],?_⟩⟩
   · unfold sortWorld
     rw [Sort.heap_grow_old _ _ (by simpa using hlt)]
     simp [Sort.putRow,Sort.mapBlock,Array.getElem?_modify,Sort.ahead,hh,Sort.onCells]
   · apply List.ext_getElem?
     intro i
     rw [List.getElem?_take]
     by_cases hi:i<k
     · rw [if_pos (by omega)]
       have hic:i<cur.size:=by omega
       simp [Sort.putCells,hi,hd,hic,List.getElem?_eq_getElem (show i<d.length by omega)]
     · rw [if_neg (by omega),List.getElem?_eq_none (by simp; omega)]
end Go.Proofs.YtfkcdnaghndgfaaGreatDoor
namespace Go.Proofs
open Go.Shelf
def YtfkcdnaghndgfaaGreatDoor.sortL_ren:Go.Shelf.Ren:=⟨fun | 6=>193 | 15=>223 | 14=>222 | 28=>241 | 29=>242 | 20=>233 | 21=>234 | 22=>235 | 23=>236 | 24=>237 | 25=>238 | 26=>239 | 27=>240 | 46=>246 | 47=>247 | 48=>248 | 49=>249 | 50=>250 | 57=>251 | n=>n,fun | 22=>98 | 24=>3 | 25=>142 | 3=>3 | 39=>113 | 0=>0 | 53=>22 | 55=>82 | 4=>4 | 46=>274 | 45=>273 | 50=>164 | 5=>5 | 9=>9 | 66=>288 | 70=>292 | 76=>294 | 77=>170 | n=>n,fun | n=>n⟩
theorem YtfkcdnaghndgfaaGreatDoor.sortL:Go.Proofs.SlLaysF.n6 Tryz.prog YtfkcdnaghndgfaaGreatDoor.sortL_ren := {
 mixed:=by kernel_rfl
 f6:=⟨Tryz.f193.name,by decide,Tryz.func193.trans (congrArg some (by kernel_rfl))⟩
 f14:=⟨Tryz.f222.name,by decide,Tryz.func222.trans (congrArg some (by kernel_rfl))⟩
 f15:=Tryz.func223.trans (congrArg some (by kernel_rfl))
 f20:=⟨Tryz.f233.name,by decide,Tryz.func233.trans (congrArg some (by kernel_rfl))⟩
 f21:=⟨Tryz.f234.name,by decide,Tryz.func234.trans (congrArg some (by kernel_rfl))⟩
 f22:=⟨Tryz.f235.name,by decide,Tryz.func235.trans (congrArg some (by kernel_rfl))⟩
 f23:=⟨Tryz.f236.name,by decide,Tryz.func236.trans (congrArg some (by kernel_rfl))⟩
 f24:=⟨Tryz.f237.name,by decide,Tryz.func237.trans (congrArg some (by kernel_rfl))⟩
 f25:=⟨Tryz.f238.name,by decide,Tryz.func238.trans (congrArg some (by kernel_rfl))⟩
 f26:=⟨Tryz.f239.name,by decide,Tryz.func239.trans (congrArg some (by kernel_rfl))⟩
 f27:=⟨Tryz.f240.name,by decide,Tryz.func240.trans (congrArg some (by kernel_rfl))⟩
 f28:=Tryz.func241.trans (congrArg some (by kernel_rfl))
 f29:=Tryz.func242.trans (congrArg some (by kernel_rfl))
 f46:=⟨Tryz.f246.name,by decide,Tryz.func246.trans (congrArg some (by kernel_rfl))⟩
 f47:=Tryz.func247.trans (congrArg some (by kernel_rfl))
 f48:=Tryz.func248.trans (congrArg some (by kernel_rfl))
 f49:=⟨Tryz.f249.name,by decide,Tryz.func249.trans (congrArg some (by kernel_rfl))⟩
 f50:=⟨Tryz.f250.name,by decide,Tryz.func250.trans (congrArg some (by kernel_rfl))⟩
 f57:=⟨Tryz.f251.name,by decide,Tryz.func251.trans (congrArg some (by kernel_rfl))⟩
 t0:=Tryz.underlying0
 a0:=Tryz.isAgg0
 z0:=Tryz.sizeOf0
 v0:=Tryz.zeroValue0
 t3:=Tryz.underlying3
 a3:=Tryz.isAgg3
 z3:=Tryz.sizeOf3
 v3:=Tryz.zeroValue3
 t4:=Tryz.underlying4
 a4:=Tryz.isAgg4
 z4:=Tryz.sizeOf4
 v4:=Tryz.zeroValue4
 t5:=Tryz.underlying5
 a5:=Tryz.isAgg5
 z5:=Tryz.sizeOf5
 v5:=Tryz.zeroValue5
 t9:=Tryz.underlying9
 a9:=Tryz.isAgg9
 z9:=Tryz.sizeOf9
 v9:=Tryz.zeroValue9
 t22:=Tryz.underlying98
 a22:=Tryz.isAgg98
 z22:=Tryz.sizeOf98
 v22:=Tryz.zeroValue98
 a24:=Tryz.isAgg3
 z24:=Tryz.sizeOf3
 t25:=Tryz.underlying142
 a25:=Tryz.isAgg142
 z25:=Tryz.sizeOf142
 v25:=Tryz.zeroValue142
 t39:=Tryz.underlying113
 a39:=Tryz.isAgg113
 z39:=Tryz.sizeOf113
 v39:=Tryz.zeroValue113
 t45:=Tryz.underlying273
 a45:=Tryz.isAgg273
 z45:=Tryz.sizeOf273
 v45:=Tryz.zeroValue273
 t46:=Tryz.underlying274
 a46:=Tryz.isAgg274
 z46:=Tryz.sizeOf274
 v46:=Tryz.zeroValue274
 t50:=Tryz.underlying164
 a50:=Tryz.isAgg164
 z50:=Tryz.sizeOf164
 v50:=Tryz.zeroValue164
 t53:=Tryz.underlying22
 a53:=Tryz.isAgg22
 z53:=Tryz.sizeOf22
 v53:=Tryz.zeroValue22
 t55:=Tryz.underlying82
 a55:=Tryz.isAgg82
 z55:=Tryz.sizeOf82
 v55:=Tryz.zeroValue82
 t66:=Tryz.underlying288
 a66:=Tryz.isAgg288
 z66:=Tryz.sizeOf288
 v66:=Tryz.zeroValue288
 t70:=Tryz.underlying292
 a70:=Tryz.isAgg292
 z70:=Tryz.sizeOf292
 v70:=Tryz.zeroValue292
 t76:=Tryz.underlying294
 a76:=Tryz.isAgg294
 z76:=Tryz.sizeOf294
 v76:=Tryz.zeroValue294
 t77:=Tryz.underlying170
 a77:=Tryz.isAgg170
 z77:=Tryz.sizeOf170
 v77:=Tryz.zeroValue170 }
end Go.Proofs
