/- Package block: Plan.tables: its walk. -/
import Derived.Test.YtfkcdnaghndgfaaGreatDoorQBS
import Derived.Test.YtfkcdnaghndgfaaGreatDoorQBO
import Derived.OwnWalk
import Derived.Test.YtfkcdnaghndgfaaGreatDoorQAD
set_option linter.unusedVariables false
set_option linter.unusedSimpArgs false
set_option linter.unusedSectionVars false
namespace Go.Proofs.YtfkcdnaghndgfaaGreatDoor
open Go.RowKit
theorem yp {w:World} {b q:Nat} {v v':Value} (h:q∉zU b v) (hq:q<w.heap.size) (hT:Later w v v'):q∉zU b v':=fun hm=>by
 rcases List.mem_cons.1 hm with h1 | h1
 · exact h (by rw [h1]; exact List.mem_cons_self)
 · rcases hT.fp q h1 with h2 | h2
   · exact h (List.mem_cons_of_mem _ h2)
   · omega
theorem kE {w0 w:World} {b q:Nat} {v0 v:Value} {L:List Bool} (h:WS w0 b v0 w v L) (hq:w.heap.size≤q):q∉zU b v:=fun hm=>by
 rcases List.mem_cons.1 hm with h1 | h1
 · have:=h.at_.blk.lt; omega
 · have:=h.at_.row.lt q (by simpa using h1); omega
def Jj (lens:List Nat) (i:Nat):List Bool:=(qD.take i).flatMap fun j=>low 3 (lens.getD j 0)
def zbf (lens:List Nat) (s:StpD):List Bool:=zN lens s.sym++low s.bits s.more
def jr (lens:List Nat) (l:List StpD):List Bool:=l.flatMap (zbf lens)
def zds (m1 m2 t:Nat):List Bool:=low 5 (m1-257)++low 5 (m2-1)++low 4 (t-4)
def zbT (m1 m2 t:Nat) (lens:List Nat) (steps:List StpD):List Bool:=zds m1 m2 t++Jj lens t++jr lens steps
theorem Xf (lens:List Nat) (i:Nat) (h:i<19):Jj lens (i+1)=Jj lens i++low 3 (lens.getD (qD.getD i 0) 0):=by
 unfold Jj
 have hi:i<qD.length:=h
 rw [List.take_succ_eq_append_getElem hi,List.flatMap_append,List.flatMap_cons,List.flatMap_nil,List.append_nil]
 have e:qD.getD i 0=qD[i]:=by rw [List.getD_eq_getElem?_getD,List.getElem?_eq_getElem hi]; rfl
 rw [e]
theorem zbP (lens:List Nat) (l:List StpD) (s:StpD):jr lens (l++[s])=jr lens l++zbf lens s:=by unfold jr; rw [List.flatMap_append,List.flatMap_cons,List.flatMap_nil,List.append_nil]
theorem Qt (lens:List Nat) : ∀ i,i≤19→(Jj lens i).length=3*i
 | 0,_=>rfl
 | i+1,h=>by rw [Xf lens i (by omega),List.length_append,Qt lens i (by omega),zk]; omega
theorem Xg (lens:List Nat) (h : ∀ x∈lens,x≤15) : ∀ (l:List StpD),(∀ s∈l,s.bits≤7)→(jr lens l).length≤22*l.length
 | [],_=>by simp [jr]
 | s::l,hs=>by
   have h1:=Xg lens h l (fun u hu=>hs u (List.mem_cons_of_mem _ hu))
   have h2:=kV lens h s.sym
   have h3:=hs s List.mem_cons_self
   unfold jr at *
   have e:(zbf lens s).length=(zN lens s.sym).length+s.bits:=by unfold zbf; rw [List.length_append,zk]
   rw [List.flatMap_cons,List.length_append,List.length_cons,e]
   omega
theorem ze8 (w:World):Calls Tryz.prog 162 #[] w fun e w'=>e = .returned (.slice (some ⟨w.heap.size,0,none⟩) 19 19)∧Blk w' w.heap.size (zf qD) 3∧Upd [] w w':=by
 go_enter Tryz.func162,Tryz.ntmps162
 go_wp2
 go_ret
 exact ⟨rfl,Blk.new w (zf qD) _,(Upd.refl [] w).alloc _⟩
def ziX (w:World) (b:Nat) (v:Value) (L:List Bool) (m1 m2:Nat) (lens:List Nat) (steps:List StpD) (e:Ending) (w':World):Prop:=e = .returned (.tuple #[]) ∧ ∃ v' t,ToldO lens t∧WS w b v w' v' (L++zbT m1 m2 t lens steps)
set_option maxRecDepth 100000 in
set_option maxHeartbeats 12800000 in
theorem zaY (lens:List Nat) (l:List StpD) (b:Nat) (v:Value) (L:List Bool) (a1 a2 a3 a4:Option Addr) (n1 n2 n3 c1 c2 c3 c4:Nat) (w:World)
 (hN : ∀ w',Upd (zU b v) w w'→IntsIn w' a4 19 (ints lens)) (hS : ∀ w',Upd (zU b v) w w'→StpIn w' a3 n3 l)
 (hW:WrAt w b v L (L.length/8)) (hL:L.length≤100000000000) (hn:n3≤1000) (h1:257≤n1∧n1≤286) (h2:1≤n2∧n2≤30) (hk:zg (ints lens)≠3) (hs : ∀ s∈l,lens.getD s.sym 0≠0∧s.bits≤7∧s.more<256) (h7 : ∀ j,lens.getD j 0≤7) :
 Calls Tryz.prog 125 #[.agg #[.slice a1 n1 c1,.slice a2 n2 c2,.slice a3 n3 c3,.slice a4 19 c4],.pointer (some ⟨b,0,none⟩)] w (ziX w b v L n1 n2 lens l):=by
 have hU1:Upd [] w (w.alloc (.cells #[.slice a1 n1 c1,.slice a2 n2 c2,.slice a3 n3 c3,.slice a4 19 c4] 177)):=(Upd.refl [] w).alloc _
 have hB:=Blk.new w [.slice a1 n1 c1,.slice a2 n2 c2,.slice a3 n3 c3,.slice a4 19 c4] 177
 have HW1:=Lib.hid ((WS.refl hW).pure hU1)
 have HBN:=Lib.hid (kE (WS.refl hW) (Nat.le_refl w.heap.size))
 have HN:=Lib.hid hN
 have HS:=Lib.hid hS
 have HLN:=Lib.hid (hN w (Upd.refl _ _)).len
 have HLS:=Lib.hid (hS w (Upd.refl _ _)).len
 have HK:=Lib.hid hk
 have HSS:=Lib.hid hs
 have H7:=Lib.hid h7
 have H15:Hid (∀ x∈lens,x≤15):=Lib.hid (by have:=Jd (xz hk).1; rwa [jJ] at this)
 have HSB:=Lib.hid (fun i=>Xg lens H15.out (l.take i) (fun s h=>(hs s (List.mem_of_mem_take h)).2.1))
 have HB:=Lib.hid hB
 clear hN hS hk hs hB hW hU1 h7
 go_enter Tryz.func125,Tryz.ntmps125
 go_upto_region 1 with fail
 change Code.wp _ _ _ _ (w.alloc (.cells #[.slice a1 n1 c1,.slice a2 n2 c2,.slice a3 n3 c3,.slice a4 19 c4] 177))
 obtain ⟨w1,hw1⟩ : ∃ w1,w1=w.alloc (.cells #[.slice a1 n1 c1,.slice a2 n2 c2,.slice a3 n3 c3,.slice a4 19 c4] 177):=⟨_,rfl⟩
 rw [← hw1] at HW1 HB ⊢
 have hbx:w.heap.size<w1.heap.size:=HB.out.lt
 obtain ⟨bx,hbxe⟩ : ∃ bx,w.heap.size=bx:=⟨_,rfl⟩
 rw [hbxe] at HB HBN hbx ⊢
 clear hw1 hbxe
 have k0:=HB.out.cell 0 rfl
 have k1:=HB.out.cell 1 rfl
 have k2:=HB.out.cell 2 rfl
 have k3:=HB.out.cell 3 rfl
 have HTO:=Lib.hid (WG lens a1 a2 a3 a4 n1 n2 n3 c1 c2 c3 c4 w1 (HN.out w1 HW1.out.upd))
 go_wp2_with fail
 refine HTO.out.mono ?_
 rintro e w2 ⟨t,rfl,ht,hU2⟩
 have HT:=Lib.hid ht
 have ht4:=ht.lo
 have ht19:=ht.hi
 have HW2:=Lib.hid (HW1.out.pure hU2)
 have hB2:=HB.out.upd hU2 (by simp)
 have hbx2:bx<w2.heap.size:=hB2.lt
 have HB2:=Lib.hid hB2
 clear k0 k1 k2 k3 ht hU2 HTO HW1 HB hbx hB2
 have k0:=HB2.out.cell 0 rfl
 have hx1:IntKind.u32.wrap ((n1:Int)-256-1)=((n1-257:Nat):Int):=by simp [IntKind.wrap,IntKind.bits,IntKind.signed]; omega
 have hx1':(((n1:Int)-256-1)%4294967296)=((n1-257:Nat):Int):=by omega
 obtain ⟨q1,hq1⟩ : ∃ q,n1-257=q:=⟨_,rfl⟩
 rw [hq1] at hx1 hx1'
 have HQ1:=Lib.hid hq1
 have hq1b:q1<32:=by omega
 clear hq1
 have HBX:=Lib.hid (yo b (q1) ((q1:Nat):Int) 5 5 w2 v (L) rfl (by omega) HW2.out.at_ (by omega) (by omega) (Lib.hid (by omega)))
 go_wp2_with fail
 refine HBX.out.mono ?_
 rintro e w3 ⟨rfl,v3,h1',h2',h3⟩
 have HW3:=Lib.hid (HW2.out.step h1' h2' h3)
 clear HBX
 have hB3:=HB2.out.upd h2' HBN.out
 have HBN3:=Lib.hid (yp HBN.out hbx2 h3)
 have hbx3:bx<w3.heap.size:=hB3.lt
 have HB3:=Lib.hid hB3
 clear h1' h2' h3 k0 hx1 hx1' HW2 HB2 hB3 hbx2
 have k1:=HB3.out.cell 1 rfl
 have hx2:IntKind.u32.wrap ((n2:Int)-1)=((n2-1:Nat):Int):=by simp [IntKind.wrap,IntKind.bits,IntKind.signed]; omega
 have hx2':(((n2:Int)-1)%4294967296)=((n2-1:Nat):Int):=by omega
 obtain ⟨q2,hq2⟩ : ∃ q,n2-1=q:=⟨_,rfl⟩
 rw [hq2] at hx2 hx2'
 have HQ2:=Lib.hid hq2
 have hq2b:q2<32:=by omega
 have hl3:(L++low 5 q1).length≤100000000005:=by rw [List.length_append,zk]; omega
 obtain ⟨L3,hL3⟩ : ∃ L3,L++low 5 q1=L3:=⟨_,rfl⟩
 rw [hL3] at HW3 hl3
 have HL3:=Lib.hid hL3
 clear hq2 hL3
 have HBX:=Lib.hid (yo b q2 ((q2:Nat):Int) 5 5 w3 v3 L3 rfl (by omega) HW3.out.at_ (by omega) (by omega) (Lib.hid (by omega)))
 go_wp2_with fail
 refine HBX.out.mono ?_
 rintro e w4 ⟨rfl,v4,h1',h2',h3⟩
 have HW4:=Lib.hid (HW3.out.step h1' h2' h3)
 have hB4:=HB3.out.upd h2' HBN3.out
 have HBN4:=Lib.hid (yp HBN3.out hbx3 h3)
 have hbx4:bx<w4.heap.size:=hB4.lt
 have HB4:=Lib.hid hB4
 clear HBX h1' h2' h3 k1 hx2 hx2' HW3 HB3 hB4 hbx3
 have hx3:IntKind.u32.wrap ((t:Int)-4)=((t-4:Nat):Int):=by simp [IntKind.wrap,IntKind.bits,IntKind.signed]; omega
 have hx3':(((t:Int)-4)%4294967296)=((t-4:Nat):Int):=by omega
 obtain ⟨q3,hq3⟩ : ∃ q,t-4=q:=⟨_,rfl⟩
 rw [hq3] at hx3 hx3'
 have HQ3:=Lib.hid hq3
 have hq3b:q3<16:=by omega
 have hl4:(L3++low 5 q2).length≤100000000010:=by rw [List.length_append,zk]; omega
 obtain ⟨L4,hL4⟩ : ∃ L4,L3++low 5 q2=L4:=⟨_,rfl⟩
 rw [hL4] at HW4 hl4
 have HL4:=Lib.hid hL4
 clear hq3 hL4
 have HBX:=Lib.hid (yo b q3 ((q3:Nat):Int) 4 4 w4 v4 L4 rfl (by omega) HW4.out.at_ (by omega) (by omega) (Lib.hid (by omega)))
 go_wp2_with fail
 refine HBX.out.mono ?_
 rintro e w5 ⟨rfl,v5,h1',h2',h3⟩
 have HW5:=Lib.hid (HW4.out.step h1' h2' h3)
 have hB5:=HB4.out.upd h2' HBN4.out
 have HBN5:=Lib.hid (yp HBN4.out hbx4 h3)
 have hbx5:bx<w5.heap.size:=hB5.lt
 have HB5:=Lib.hid hB5
 have hl5:(L4++low 4 q3).length≤100000000014:=by rw [List.length_append,zk]; omega
 obtain ⟨L5,hL5⟩ : ∃ L5,L4++low 4 q3=L5:=⟨_,rfl⟩
 rw [hL5] at HW5 hl5
 have HL5:Hid (L++zds n1 n2 t=L5):=Lib.hid (by unfold zds; rw [HQ1.out,HQ2.out,HQ3.out,← hL5,← HL4.out,← HL3.out]; simp only [List.append_assoc])
 clear HBX h1' h2' h3 hx3 hx3' HW4 HB4 hB5 hbx4 hL5
 go_wp2_with fail
 refine (ze8 _).mono ?_
 rintro e w6 ⟨rfl,hG,hU6⟩
 have hgn:w5.heap.size∉zU b v5∧w5.heap.size<w6.heap.size:=⟨kE HW5.out (Nat.le_refl _),hG.lt⟩
 generalize w5.heap.size=g at *
 have HW6:=Lib.hid (HW5.out.pure hU6)
 have HB6:=Lib.hid (HB5.out.upd hU6 (by simp))
 have HG:=Lib.hid hG
 have HGN:=Lib.hid hgn.1
 have hbx6:bx<w6.heap.size:=HB6.out.lt
 have htz:(t:Int)≤19:=by omega
 have htz0:(0:Int)≤(t:Int):=by omega
 clear hG hU6 HW5 HB5 hbx5
 go_wp2
 go_loopg [35] 1000 (fun gg s35 wr => ∃ i:Nat,i≤t∧gg=1000-i∧s35 = .int .i64 (i:Nat) ∧ ∃ v',Hid (WS w b v wr v' (L5++Jj lens i))∧Hid (Blk wr bx [.slice a1 n1 c1,.slice a2 n2 c2,.slice a3 n3 c3,.slice a4 19 c4] 177)∧Hid (Blk wr g (zf qD) 3)∧Hid (bx∉zU b v'∧g∉zU b v'))
 case atStart=>exact ⟨0,by omega,by omega,rfl,v5,Lib.hid (by show WS w b v w6 v5 (L5++[]); rw [List.append_nil]; exact HW6.out),HB6,HG,Lib.hid ⟨HBN5.out,HGN.out⟩⟩
 case round =>
  obtain ⟨i,hin,rfl,rfl,vi,HWi,HBi,HGi,HNi⟩:=hrel
  have hlbi:=Qt lens i (by omega)
  have hLi:(L5++Jj lens i).length≤100000000100:=by rw [List.length_append]; omega
  by_cases hc:i<t
  · have hcz:(i:Int)<(t:Int):=by omega
    have hw1:IntKind.i64.wrap ((i:Int)+1)=((i+1:Nat):Int):=by rw [IntWalk.i64_in _ (by omega)]; rfl
    obtain ⟨hj,hjo⟩:=zc6 ⟨i,by omega⟩
    dsimp only at hj hjo
    have co:=HGi.out.cell i (zt qD i _ hjo)
    have k3:=HBi.out.cell 3 rfl
    have hjl:qD.getD i 0<lens.length:=by have:=HLN.out; simp [ints] at this; omega
    obtain ⟨b4,off4,rfl,hcx⟩:=(HN.out wr HWi.out.upd).natAt _ hjl
    have hx7:=H7.out (qD.getD i 0)
    have HLS2:=Lib.hid (Xf lens i (by omega))
    generalize lens.getD (qD.getD i 0) 0=xv at *
    generalize qD.getD i 0=j at *
    have hjz:(j:Int)<19:=by omega
    have hxc:IntKind.u32.wrap (xv:Int)=(xv:Int):=by simp [IntKind.wrap,IntKind.bits,IntKind.signed]; omega
    have hxc':((xv:Int)%4294967296)=(xv:Int):=by omega
    obtain ⟨Li,hLie⟩ : ∃ Li,L5++Jj lens i=Li:=⟨_,rfl⟩
    rw [hLie] at HWi hLi
    have HLI:=Lib.hid hLie
    have HBX:=Lib.hid (yo b xv ((xv:Nat):Int) 3 3 wr vi Li rfl (by omega) HWi.out.at_ (by omega) (by omega) (Lib.hid (by omega)))
    have hbxr:bx<wr.heap.size:=HBi.out.lt
    have hgr:g<wr.heap.size:=HGi.out.lt
    clear hjo hjl hlbi hLie
    go_wp2_with fail
    refine HBX.out.mono ?_
    rintro e w7 ⟨rfl,v7,h1',h2',h3⟩
    have HW7:=Lib.hid (HWi.out.step h1' h2' h3)
    have HB7:=Lib.hid (HBi.out.upd h2' HNi.out.1)
    have HG7:=Lib.hid (HGi.out.upd h2' HNi.out.2)
    have HN7:=Lib.hid (And.intro (yp HNi.out.1 hbxr h3) (yp HNi.out.2 hgr h3))
    have HF:Hid (L5++Jj lens (i+1)=Li++low 3 xv):=Lib.hid (by rw [HLS2.out,← HLI.out,List.append_assoc])
    clear HBX h1' h2' h3 co k3 hcx hxc hxc' HWi HBi HGi HNi
    go_wp2
    go_roundg (1000-(i+1))
    · exact ⟨i+1,by omega,by omega,by first | rfl | go_num,v7,Lib.hid (by rw [HF.out]; exact HW7.out),HB7,HG7,HN7⟩
    · omega
  · have hcz : ¬ (i:Int)<(t:Int):=by omega
    obtain rfl:i=t:=by omega
    have k2:=HBi.out.cell 2 rfl
    obtain ⟨L6,hL6⟩ : ∃ L6,L5++Jj lens i=L6:=⟨_,rfl⟩
    rw [hL6] at HWi hLi
    have HL6:=Lib.hid hL6
    obtain ⟨w8,hw8⟩ : ∃ W:World,W=wr:=⟨_,rfl⟩
    subst hw8
    have HBN8:=Lib.hid HNi.out.1
    clear hlbi hL6 HGi HNi HG HGN HW6 HB6
    go_wp2
    go_loopg [51] 2000 (fun gg s51 wr => ∃ k:Nat,k≤n3∧gg=2000-k∧s51 = .int .i64 (k:Nat) ∧ ∃ v',Hid (WS w b v wr v' (L6++jr lens (l.take k)))∧Hid (Blk wr bx [.slice a1 n1 c1,.slice a2 n2 c2,.slice a3 n3 c3,.slice a4 19 c4] 177)∧Hid (bx∉zU b v'))
    case atStart=>exact ⟨0,by omega,by omega,rfl,vi,Lib.hid (by rw [List.take_zero]; show WS w b v w8 vi (L6++[]); rw [List.append_nil]; exact HWi.out),HBi,HBN8⟩
    case round =>
     clear HWi HBi HBN8 k2
     obtain ⟨k,hkn,rfl,rfl,vk,HWk,HBk,HNk⟩:=hrel
     have hsb:(jr lens (l.take k)).length≤22*k:=Nat.le_trans (HSB.out k) (Nat.mul_le_mul_left _ (List.length_take_le _ _))
     have hLk:(L6++jr lens (l.take k)).length≤100000030100:=by rw [List.length_append]; omega
     by_cases hck:k<n3
     · have hckz:(k:Int)<(n3:Int):=by omega
       have hw1:IntKind.i64.wrap ((k:Int)+1)=((k+1:Nat):Int):=by rw [IntWalk.i64_in _ (by omega)]; rfl
       have hil:k<l.length:=by rw [HLS.out]; exact hck
       obtain ⟨bs,offs,rfl,hc1,hc2,hc3⟩:=(HS.out wr HWk.out.upd).cell k hil
       have HST:Hid (jr lens (l.take (k+1))=jr lens (l.take k)++zbf lens l[k]):=Lib.hid (by rw [List.take_succ_eq_append_getElem hil,zbP])
       obtain ⟨hs0,hs7,hs256⟩:=HSS.out l[k] (List.getElem_mem hil)
       have HSD:Hid (zbf lens l[k]=zN lens l[k].sym++low l[k].bits l[k].more):=Lib.hid rfl
       generalize zbf lens l[k]=SB at *
       generalize l[k]=s at *
       obtain ⟨sy,sb,sm⟩:=s
       dsimp only at hc1 hc2 hc3 hs0 hs7 hs256 HSD
       obtain ⟨Lk,hLke⟩ : ∃ Lk,L6++jr lens (l.take k)=Lk:=⟨_,rfl⟩
       rw [hLke] at HWk hLk
       have HLK:Hid (L6++jr lens (l.take (k+1))=Lk++(zN lens sy++low sb sm)):=Lib.hid (by rw [HST.out,HSD.out,← hLke,List.append_assoc])
       have hT4:=Blk.new wr [.int .i64 (sy:Nat),.int .i64 (sb:Nat),.int .i64 (sm:Nat)] 217
       have hUa:Upd [] wr (wr.alloc (.cells #[.int .i64 (sy:Nat),.int .i64 (sb:Nat),.int .i64 (sm:Nat)] 217)):=(Upd.refl [] wr).alloc _
       have HWa:=Lib.hid (HWk.out.pure hUa)
       have HBa:=Lib.hid (HBk.out.upd hUa (by simp))
       have hqn:=kE HWk.out (Nat.le_refl wr.heap.size)
       have HS0:=Lib.hid hs0
       clear hil hLke hUa HWk HBk HST HSD hs0
       go_upto_region 13 with fail
       change Code.wp _ _ _ _ (wr.alloc (.cells #[.int .i64 (sy:Nat),.int .i64 (sb:Nat),.int .i64 (sm:Nat)] 217))
       generalize wr.alloc (.cells #[.int .i64 (sy:Nat),.int .i64 (sb:Nat),.int .i64 (sm:Nat)] 217)=wa at *
       generalize wr.heap.size=q at *
       have HQN:=Lib.hid hqn
       have t0:=hT4.cell 0 rfl
       have HT4:=Lib.hid hT4
       have k3:=HBa.out.cell 3 rfl
       have hbxa:bx<wa.heap.size:=HBa.out.lt
       have hqa:q<wa.heap.size:=hT4.lt
       have HWc:=Lib.hid (vZ b 19 c4 sy vk Lk a4 lens wa (fun w' h=>HN.out w' (HWa.out.fp h)) HWa.out.at_ (by omega) HK.out HS0.out)
       clear hT4 hc1 hc2 hc3 hqn
       go_wp2_with fail
       refine HWc.out.mono ?_
       rintro e w9 ⟨rfl,v9,h1',h2',h3⟩
       have HW9:=Lib.hid (HWa.out.step h1' h2' h3)
       have hT9:=HT4.out.upd h2' HQN.out
       have HB9:=Lib.hid (HBa.out.upd h2' HNk.out)
       have HN9:=Lib.hid (yp HNk.out hbxa h3)
       have tA:=hT9.all
       obtain ⟨L9,hL9⟩ : ∃ L9,Lk++zN lens sy=L9:=⟨_,rfl⟩
       have hL9l:L9.length≤100000030115:=by rw [← hL9,List.length_append]; have:=kV lens H15.out sy; omega
       rw [hL9] at HW9
       have HL9:=Lib.hid hL9
       have hxc:IntKind.u32.wrap (sm:Int)=(sm:Int):=by simp [IntKind.wrap,IntKind.bits,IntKind.signed]; omega
       have hxc':((sm:Int)%4294967296)=(sm:Int):=by omega
       have hbx9:bx<w9.heap.size:=HB9.out.lt
       have HBX:=Lib.hid (yo b sm ((sm:Nat):Int) (sb:Int) sb w9 v9 L9 rfl (by omega) HW9.out.at_ (by omega) (by omega) (Lib.hid (by omega)))
       clear h1' h2' h3 t0 k3 HWc HT4 hT9 HWa HBa HQN hL9
       go_wp2_with fail
       refine HBX.out.mono ?_
       rintro e w10 ⟨rfl,v10,h1',h2',h3⟩
       have HW10:=Lib.hid (HW9.out.step h1' h2' h3)
       have HB10:=Lib.hid (HB9.out.upd h2' HN9.out)
       have HN10:=Lib.hid (yp HN9.out hbx9 h3)
       have HF:Hid (L6++jr lens (l.take (k+1))=L9++low sb sm):=Lib.hid (by rw [HLK.out,← HL9.out,List.append_assoc])
       clear h1' h2' h3 tA hxc hxc' HBX HW9 HB9 HN9
       go_wp2
       go_roundg (2000-(k+1))
       · exact ⟨k+1,by omega,by omega,by first | rfl | go_num,v10,Lib.hid (by rw [HF.out]; exact HW10.out),HB10,HN10⟩
       · omega
     · have hckz : ¬ (k:Int)<(n3:Int):=by omega
       obtain rfl:k=n3:=by omega
       have htk:l.take k=l:=List.take_of_length_le (by rw [HLS.out]; exact Nat.le_refl _)
       rw [htk] at HWk
       go_wp2
       go_returns
       exact ⟨rfl,vk,i,HT.out,by
        have e:L++zbT n1 n2 i lens l=L6++jr lens l:=by unfold zbT; rw [← HL6.out,← HL5.out]; simp only [List.append_assoc]
        rw [e]
        exact HWk.out⟩
end Go.Proofs.YtfkcdnaghndgfaaGreatDoor
namespace Go.Proofs.YtfkcdnaghndgfaaGreatDoor
open Go.RowKit
attribute [local go_sem] Oper.semAt_some
theorem zge (n:Nat) (h:n<65536):n ^^^ 65535=65535-n:=by
 have h2:BitVec.ofNat 16 n ^^^ 65535#16=65535#16-BitVec.ofNat 16 n:=by
  rw [show (65535#16:BitVec 16)=BitVec.allOnes 16 from rfl,BitVec.xor_allOnes,BitVec.allOnes_sub_eq_not]
 have h3:=congrArg BitVec.toNat h2
 have e1:n%2^16=n:=Nat.mod_eq_of_lt h
 have e2:65535%2^16=65535:=rfl
 simp only [BitVec.toNat_xor,BitVec.toNat_ofNat,BitVec.toNat_sub,e1,e2] at h3
 omega
theorem zgA (n:Nat) (h:n<65536):bits .xor .i64 (n:Int) 65535=((65535-n:Nat):Int):=by
 have h1:(BitVec.ofInt 64 (n:Int)).toNat=n:=by
  rw [BitVec.ofInt_natCast,BitVec.toNat_ofNat]; exact Nat.mod_eq_of_lt (by omega)
 have h2:(BitVec.ofInt 64 65535).toNat=65535:=by rfl
 show IntKind.i64.wrap ((BitVec.ofInt 64 (n:Int) ^^^ BitVec.ofInt 64 65535).toNat:Int)=_
 rw [BitVec.toNat_xor,h1,h2,zge n h]
 exact IntWalk.i64_in _ (by omega)
def QF (l:List Tok):Nat:=l.countP fun t=>decide (t.long=0)
def jt (l:List Tok):Nat:=l.countP fun t=>decide (t.long≠0)
theorem zen (l:List Tok) (t:Tok):QF (l++[t])=QF l+if t.long=0 then 1 else 0:=by unfold QF; rw [List.countP_append]; simp [List.countP_cons]
theorem zfa (l:List Tok) (t:Tok):jt (l++[t])=jt l+if t.long=0 then 0 else 1:=by
 unfold jt
 rw [List.countP_append]
 by_cases h:t.long=0<;>simp [List.countP_cons,h]
theorem zh9 (l:List Tok):QF l≤l.length:=List.countP_le_length
theorem zcP (l:List Tok):jt l≤l.length:=List.countP_le_length
def zdb (l:List Tok) (w:World) (e:Ending) (w':World):Prop:=e = .returned (.tuple #[.int .i64 (QF l:Nat),.int .i64 (jt l:Nat)])∧Upd [] w w'
set_option maxRecDepth 100000 in
set_option maxHeartbeats 6400000 in
theorem WF (l:List Tok) (a:Option Addr) (n cap:Nat) (w:World) (hI:TokIn w a n l) (hn:n≤100000) :
 Calls Tryz.prog 119 #[.slice a n cap] w fun e w'=>zdb l w e w':=by
 have HI:=Lib.hid hI
 have HLN:=Lib.hid hI.len
 clear hI
 go_enter Tryz.func119,Tryz.ntmps119
 go_wp2
 go_loopg [2,3,8] 200000 (fun gg s2 s3 s8 wr => ∃ i:Nat,i≤n∧gg=200000-i∧s8 = .int .i64 (i:Nat)∧s2 = .int .i64 (QF (l.take i):Nat)∧s3 = .int .i64 (jt (l.take i):Nat)∧Hid (Upd [] w wr))
 case atStart=>exact ⟨0,by omega,by omega,rfl,rfl,rfl,Lib.hid (Upd.refl _ _)⟩
 case round =>
  obtain ⟨i,hin,rfl,rfl,rfl,rfl,HU⟩:=hrel
  have h1:QF (l.take i)≤i:=Nat.le_trans (zh9 _) (List.length_take_le _ _)
  have h2:jt (l.take i)≤i:=Nat.le_trans (zcP _) (List.length_take_le _ _)
  by_cases hc:i<n
  · have hcz:(i:Int)<(n:Int):=by omega
    have hil:i<l.length:=by rw [HLN.out]; exact hc
    have hw1:IntKind.i64.wrap ((i:Int)+1)=((i+1:Nat):Int):=by rw [IntWalk.i64_in _ (by omega)]; rfl
    obtain ⟨b,off,rfl,⟨hc1,hc2,hc3⟩,r1,r2,r3⟩:=(HI.out.pure HU.out).cell i hil
    have HL:Hid (QF (l.take (i+1))=QF (l.take i)+if l[i].long=0 then 1 else 0):=Lib.hid (by rw [List.take_succ_eq_append_getElem hil,zen])
    have HF:Hid (jt (l.take (i+1))=jt (l.take i)+if l[i].long=0 then 0 else 1):=Lib.hid (by rw [List.take_succ_eq_append_getElem hil,zfa])
    generalize l[i]=t at *
    obtain ⟨tb,tl,tk⟩:=t
    dsimp only at hc1 hc2 hc3 r1 r2 r3
    have HU4:=Lib.hid (HU.out.alloc (.cells #[.int .u8 (tb:Nat),.int .i64 tl,.int .i64 tk] 130))
    generalize QF (l.take i)=A at *
    generalize jt (l.take i)=B at *
    have hwA:IntKind.i64.wrap ((A:Int)+1)=((A+1:Nat):Int):=by rw [IntWalk.i64_in _ (by omega)]; rfl
    have hwB:IntKind.i64.wrap ((B:Int)+1)=((B+1:Nat):Int):=by rw [IntWalk.i64_in _ (by omega)]; rfl
    clear hil
    by_cases h0:tl=0
    · have HL0:Hid (QF (l.take (i+1))=A+1):=Lib.hid (by rw [HL.out,if_pos h0])
      have HF0:Hid (jt (l.take (i+1))=B):=Lib.hid (by rw [HF.out,if_pos h0]; rfl)
      clear HL HF
      subst h0
      go_wp2
      go_roundg (200000-(i+1))
      · exact ⟨i+1,by omega,by omega,by first | rfl | go_num,by rw [HL0.out]; first | rfl | go_num,by rw [HF0.out],HU4⟩
      · omega
    · have h0b:(tl==0)=false:=by simpa using h0
      have HL0:Hid (QF (l.take (i+1))=A):=Lib.hid (by rw [HL.out,if_neg h0]; rfl)
      have HF0:Hid (jt (l.take (i+1))=B+1):=Lib.hid (by rw [HF.out,if_neg h0])
      clear HL HF
      go_wp2
      go_roundg (200000-(i+1))
      · exact ⟨i+1,by omega,by omega,by first | rfl | go_num,by rw [HL0.out],by rw [HF0.out]; first | rfl | go_num,HU4⟩
      · omega
  · have hcz : ¬ (i:Int)<(n:Int):=by omega
    obtain rfl:i=n:=by omega
    have htk:l.take i=l:=List.take_of_length_le (by rw [HLN.out]; exact Nat.le_refl _)
    rw [htk]
    clear htk h1 h2
    go_wp2
    go_ret2
    exact ⟨rfl,HU.out⟩
def xt (l:List Tok):List Nat:=l.map Tok.byte
def XK (L:List Bool) (bs:List Nat):List Bool:=qq L++low 16 bs.length++low 16 (65535-bs.length)++zv bs
set_option maxRecDepth 100000 in
set_option maxHeartbeats 12800000 in
theorem zcD (l:List Tok) (b:Nat) (v:Value) (L:List Bool) (a:Option Addr) (n cap:Nat) (w:World) (hI : ∀ w',Upd (zU b v) w w'→TokIn w' a n l)
 (hW:WrAt w b v L (L.length/8)) (hL:L.length≤100000000000) (hn:n≤65535) :
 Calls Tryz.prog 121 #[.pointer (some ⟨b,0,none⟩),.slice a n cap] w (zid w b v (XK L (xt l))):=by
 obtain ⟨i0,hi,hz0,hz1,hz2⟩:=info_parts Za
 have HI:=Lib.hid hI
 have HLN:=Lib.hid (hI w (Upd.refl _ _)).len
 have HBY:Hid (∀ t∈l,t.byte<256):=Lib.hid (fun t ht=>by
  obtain ⟨i,hi,rfl⟩:=List.getElem_of_mem ht
  obtain ⟨_,_,_,_,r,_⟩:=(hI w (Upd.refl _ _)).cell i hi
  exact r)
 have HW:=Lib.hid (WS.refl hW)
 clear hI hW
 go_enter Tryz.func121,Tryz.ntmps121
 go_wp2_with (refine wpList_make_own w rfl _ _ 75 rfl 0 5 i0 _ 1 Tryz.underlying75 hi hz0 hz1 .i64 .i64 (n:Int) n rfl rfl rfl (by rw [hz2]; omega) (by unfold maxLen; omega) (Nat.zero_le _) ?_; intro w1 hR1 hG1)
 have hU1:Upd [] w w1:=(Upd.refl [] w).grown hG1 (by simp)
 have HR1:Hid (Row w1 5 1 (.slice (some ⟨w.heap.size,0,none⟩) 0 n) 0 []):=Lib.hid hR1
 have HO1:Hid (∀ k,(Value.slice (some ⟨w.heap.size,0,none⟩) 0 n).ownBlock=some k→w.heap.size≤k):=Lib.hid (fun k hk=>by simp [Value.ownBlock] at hk; omega)
 have HU1:=Lib.hid hU1
 clear hR1 hG1 hU1
 go_loopg [4,12] 200000 (fun gg s4 s12 wr => ∃ i:Nat,i≤n∧gg=200000-i∧s12 = .int .i64 (i:Nat)∧Hid (Row wr 5 1 s4 i (u8s (xt (l.take i))))∧Hid (∀ k,s4.ownBlock=some k→w.heap.size≤k)∧Hid (Upd [] w wr))
 case atStart=>exact ⟨0,by omega,by omega,rfl,HR1,HO1,HU1⟩
 case round =>
  clear HR1 HO1 HU1
  obtain ⟨i,hin,rfl,rfl,HR,HO,HU⟩:=hrel
  obtain ⟨va,vc,hv⟩:=HR.out.form
  subst hv
  by_cases hc:i<n
  · have hcz:(i:Int)<(n:Int):=by omega
    have hil:i<l.length:=by rw [HLN.out]; exact hc
    have hw1:IntKind.i64.wrap ((i:Int)+1)=((i+1:Nat):Int):=by rw [IntWalk.i64_in _ (by omega)]; rfl
    obtain ⟨bt,off,rfl,⟨hc1,hc2,hc3⟩,r1,r2,r3⟩:=(HI.out wr (HU.out.mono (by simp))).cell i hil
    have HST:Hid (u8s (xt (l.take (i+1)))=u8s (xt (l.take i))++[.int .u8 (l[i].byte:Nat)]):=Lib.hid (by
     rw [List.take_succ_eq_append_getElem hil]
     unfold xt
     rw [List.map_append,kX]
     rfl)
    generalize l[i]=t at *
    obtain ⟨tb,tl,tk⟩:=t
    dsimp only at hc1 hc2 hc3 r1 r2 r3 HST
    have hT4:=Blk.new wr [.int .u8 (tb:Nat),.int .i64 tl,.int .i64 tk] 130
    have hU4:=(Upd.refl [] wr).alloc (.cells #[.int .u8 (tb:Nat),.int .i64 tl,.int .i64 tk] 130)
    have hR4:=HR.out.alloc (.cells #[.int .u8 (tb:Nat),.int .i64 tl,.int .i64 tk] 130)
    have hq:=HR.out.lt
    clear hil HR
    go_upto_region 4 with fail
    change Code.wp _ _ _ _ (wr.alloc (.cells #[.int .u8 (tb:Nat),.int .i64 tl,.int .i64 tk] 130))
    have HU4:=Lib.hid (HU.out.then hU4)
    generalize wr.alloc (.cells #[.int .u8 (tb:Nat),.int .i64 tl,.int .i64 tk] 130)=w4 at *
    generalize wr.heap.size=q at *
    have t0:=hT4.cell 0 rfl
    have hRz:=hR4.alloc (.cells #[.int .u8 (tb:Nat)] 5)
    have HNW:Hid (∀ j u,([.int .u8 (tb:Nat)]:List Value)[j]? =some u→(w4.alloc (.cells #[.int .u8 (tb:Nat)] 5)).cell? ((⟨w4.heap.size,0,none⟩:Addr).add j)=some u):=Lib.hid (World.news_of_block (cs := #[.int .u8 (tb:Nat)]) (t:=5) (fr:=(0,0)) (heap_alloc_new _ _))
    clear hU4 hR4 hT4 hc1 hc2 hc3 hq
    go_wp2_with (at_builtin; refine zC _ rfl _ _ 75 rfl 5 i0 _ 1 1 Tryz.underlying75 hi hz0 hz1 hz2 rfl (by omega) (.slice va i vc) i _ rfl hRz ⟨w4.heap.size,0,none⟩ 1 1 [.int .u8 (tb:Nat)] rfl rfl HNW.out (by simp [Value.oneCell']) (by unfold maxLen; omega) (by omega) ?_)
    intro v7 w7 hR7 hU7 hT7
    have hUa:=((Upd.refl [] w4).alloc (.cells #[.int .u8 (tb:Nat)] 5)).mono (fp':=(Value.slice va i vc).ownBlock.toList) (fun k hk=>by simp at hk) |>.then hU7
    have HR7:Hid (Row w7 5 1 v7 (i+1) (u8s (xt (l.take (i+1))))):=Lib.hid (by rw [HST.out]; exact hR7)
    have HO7:Hid (∀ k,v7.ownBlock=some k→w.heap.size≤k):=Lib.hid (fun k hk=>by
     rcases hT7 with h | ⟨g',h1,h2⟩
     · exact HO.out k (by rw [← h]; exact hk)
     · rw [hk] at h1; cases h1; have:=(HU4.out.alloc (.cells #[.int .u8 (tb:Nat)] 5)).size; exact Nat.le_trans this h2)
    have HU7:=Lib.hid (HU4.out.trans hUa (fun k hk => .inr (HO.out k (by simpa using hk))))
    clear hR7 hU7 hT7 hUa hRz HNW t0 HO HST
    go_wp2
    go_roundg (200000-(i+1))
    · exact ⟨i+1,by omega,by omega,by first | rfl | go_num,HR7,HO7,HU7⟩
    · omega
  · have hcz : ¬ (i:Int)<(n:Int):=by omega
    obtain rfl:i=n:=by omega
    have htk:l.take i=l:=List.take_of_length_le (by rw [HLN.out]; exact Nat.le_refl _)
    rw [htk] at HR
    clear htk
    have HWr:=Lib.hid (HW.out.pure HU.out)
    have HBs:Hid ((xt l).length=i):=Lib.hid (by unfold xt; rw [List.length_map,HLN.out])
    have HB256:Hid (∀ x∈xt l,x<256):=Lib.hid (fun x hx=>by obtain ⟨t,ht,rfl⟩:=List.mem_map.1 hx; exact HBY.out t ht)
    generalize xt l=bs at *
    have HON:Hid (∀ k,(Value.slice va i vc).ownBlock=some k→k∉zU b v):=Lib.hid (fun k hk=>kE HW.out (HO.out k hk))
    have hRl:=HR.out.lt
    have HRL:=Lib.hid hRl
    have HBX:=Lib.hid (Vd b wr v L HWr.out.at_ (by omega))
    clear HO HW hRl
    go_wp2_with fail
    refine HBX.out.mono ?_
    rintro e w2 ⟨rfl,v2,h1',h2',h3⟩
    have HW2:=Lib.hid (HWr.out.step h1' h2' h3)
    have HR2:=Lib.hid (HR.out.upd h2' HON.out)
    have HN2:Hid (∀ k,(Value.slice va i vc).ownBlock=some k→k∉zU b v2):=Lib.hid (fun k hk=>yp (HON.out k hk) (HRL.out k hk) h3)
    have hRL2:=HR2.out.lt
    have HRL2:=Lib.hid hRL2
    obtain ⟨L2,hL2⟩ : ∃ L2,qq L=L2:=⟨_,rfl⟩
    have hl2:L2.length≤100000000008:=by rw [← hL2,xX]; omega
    rw [hL2] at HW2
    have HL2:=Lib.hid hL2
    have hxc:IntKind.u32.wrap (i:Int)=(i:Int):=by simp [IntKind.wrap,IntKind.bits,IntKind.signed]; omega
    have hxc':((i:Int)%4294967296)=(i:Int):=by omega
    clear h1' h2' h3 HBX HWr HR HON HRL hRL2 hL2
    have HBX:=Lib.hid (yo b i ((i:Nat):Int) 16 16 w2 v2 L2 rfl (by omega) HW2.out.at_ (by omega) (by omega) (Lib.hid (by omega)))
    go_wp2_with fail
    refine HBX.out.mono ?_
    rintro e w3 ⟨rfl,v3,h1',h2',h3⟩
    have HW3:=Lib.hid (HW2.out.step h1' h2' h3)
    have HR3:=Lib.hid (HR2.out.upd h2' HN2.out)
    have HN3:Hid (∀ k,(Value.slice va i vc).ownBlock=some k→k∉zU b v3):=Lib.hid (fun k hk=>yp (HN2.out k hk) (HRL2.out k hk) h3)
    have hRL3:=HR3.out.lt
    have HRL3:=Lib.hid hRL3
    obtain ⟨L3,hL3⟩ : ∃ L3,L2++low 16 i=L3:=⟨_,rfl⟩
    have hl3:L3.length≤100000000024:=by rw [← hL3,List.length_append,zk]; omega
    rw [hL3] at HW3
    have HL3:=Lib.hid hL3
    have hxo:=zgA i (by omega)
    obtain ⟨x5,hx5⟩ : ∃ x5,65535-i=x5:=⟨_,rfl⟩
    rw [hx5] at hxo
    have hx5b:x5≤65535:=by omega
    have HX5:=Lib.hid hx5
    have hxd:IntKind.u32.wrap (x5:Int)=(x5:Int):=by simp [IntKind.wrap,IntKind.bits,IntKind.signed]; omega
    have hxd':((x5:Int)%4294967296)=(x5:Int):=by omega
    clear h1' h2' h3 HBX HW2 HR2 HN2 HRL2 hRL3 hL3 hxc hxc' hx5
    have HBX:=Lib.hid (yo b x5 ((x5:Nat):Int) 16 16 w3 v3 L3 rfl (by omega) HW3.out.at_ (by omega) (by omega) (Lib.hid (by omega)))
    go_wp2_with fail
    refine HBX.out.mono ?_
    rintro e w4 ⟨rfl,v4,h1',h2',h3⟩
    have HW4:=Lib.hid (HW3.out.step h1' h2' h3)
    have hR4:=HR3.out.upd h2' HN3.out
    obtain ⟨L4,hL4⟩ : ∃ L4,L3++low 16 x5=L4:=⟨_,rfl⟩
    have hl4:L4.length≤100000000040:=by rw [← hL4,List.length_append,zk]; omega
    have h8:L4.length%8=0:=by rw [← hL4,← HL3.out,← HL2.out,List.length_append,List.length_append,zk,zk,xX]; omega
    rw [hL4] at HW4
    have HL4:=Lib.hid hL4
    have hcv:=qC (P:=Tryz.prog) w4 75 9 5 Tryz.underlying75 Tryz.underlying5 Tryz.underlying9 (v := .slice va i vc) (n:=i) (l:=bs) hR4
    have hsz:(zd bs).size=i:=by rw [zq,HBs.out]
    have HTX:=Lib.hid (zfD b (zd bs) w4 v4 L4 HW4.out.at_ (by omega) (by omega))
    rw [Vn L4 h8,zE bs HB256.out] at HTX
    have HF:Hid (XK L bs=L4++zv bs):=Lib.hid (by unfold XK; rw [HBs.out,HX5.out,← HL4.out,← HL3.out,← HL2.out])
    generalize zd bs=SS at *
    clear h1' h2' h3 HBX HW3 HR3 HN3 HRL3 hR4 hL4 hxo hxd hxd' h8 hsz
    go_wp2_with fail
    refine HTX.out.mono ?_
    rintro e w5 ⟨rfl,v5,h1',h2',h3⟩
    have HW5:=Lib.hid (HW4.out.step h1' h2' h3)
    clear h1' h2' h3 HTX HW4 hcv
    go_wp2
    go_returns
    exact ⟨rfl,v5,by rw [HF.out]; exact HW5.out⟩
end Go.Proofs.YtfkcdnaghndgfaaGreatDoor
