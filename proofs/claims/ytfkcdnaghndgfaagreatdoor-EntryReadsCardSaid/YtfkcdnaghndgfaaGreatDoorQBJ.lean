/- Package lens: merged: its walk. -/
import Derived.Test.YtfkcdnaghndgfaaGreatDoorQBI
import Derived.Test.YtfkcdnaghndgfaaGreatDoorQAR
set_option linter.unusedVariables false
set_option linter.unusedSimpArgs false
set_option linter.unusedSectionVars false
namespace Go.Proofs.YtfkcdnaghndgfaaGreatDoor
open Go.RowKit
theorem SlC.cons {w:World} {v p:Value} {ps:List Value} (h:SlC w v (p::ps)) : ∃ b o c,v = .slice (some ⟨b,o,none⟩) (ps.length+1) c∧ps.length+1≤c∧w.cell? ⟨b,o,none⟩=some p ∧
 (c=1→ps=[]∧SlC w (.slice (some ⟨b,o,none⟩) 0 0) ps)∧(1<c→SlC w (.slice (some ⟨b,o+1,none⟩) ps.length (c-1)) ps):=by
 obtain ⟨a,c,h1,h2,h3,h4⟩:=h
 obtain ⟨b,o,rfl,hc⟩:=h4 0 (by simp)
 rw [Nat.add_zero] at hc
 simp only [List.length_cons] at h1 h2
 refine ⟨b,o,c,h1,h2,hc,fun e=>?_,fun e=>⟨_,_,rfl,by omega,(fun e=>by cases e),fun i hi=>?_⟩⟩
 · have:ps=[]:=List.eq_nil_of_length_eq_zero (by omega)
   subst this
   exact ⟨rfl,_,_,rfl,Nat.le_refl _,(fun e=>by cases e),fun i hi=>by simp at hi⟩
 · obtain ⟨b2,o2,e2,hc2⟩:=h4 (i+1) (by simp; omega)
   cases e2
   exact ⟨b,o+1,rfl,by rw [show o+1+i=o+(i+1) by omega]; exact hc2⟩
theorem zhv {w0 w w':World} {v v':Value} {xs ys:List Value} (h:OwnC w0 w v xs) (hu:Upd [] w0 w) (o:Obj) (hR:Row w' 260 1 v' (xs.length+ys.length) (xs++ys)) (hU:Upd v.ownBlock.toList ((w.alloc o).drew) w') (hT:Later ((w.alloc o).drew) v v') :
 OwnC w0 w' v' (xs++ys)∧Upd [] w0 w' :=
 (h.upd (((Upd.refl [] w).alloc o).drew)).app (hu.then ((Upd.refl [] w).alloc o).drew) hR hU hT
theorem km {a:Option Addr} {n m c:Nat} (h:m=n) : ∃ x1 x2,Value.slice a n c = .slice x1 m x2:=⟨a,c,by rw [h]⟩
theorem CoinAt.one {w:World} {p:Value} {c:Coin} (h:CoinAt w p c):p.oneCell'=true:=by
 obtain ⟨b,u,v,rfl,_⟩:=h.head
 rfl
theorem CoinsAt.ones {w:World} {ps:List Value} {cs:List Coin} (h:CoinsAt w ps cs) : ∀ u∈ps,u.oneCell'=true:=fun u hu=>by
 obtain ⟨i,hi⟩:=List.getElem?_of_mem hu
 have hl:=(List.getElem?_eq_some_iff.1 hi).1
 exact (h.2 i u (cs[i]'(by rw [← h.1]; exact hl)) hi (List.getElem?_eq_getElem (by rw [← h.1]; exact hl))).one
theorem CoinsAt.cons {w:World} {p:Value} {ps:List Value} {c:Coin} {cs:List Coin} (h:CoinsAt w (p::ps) (c::cs)):CoinAt w p c∧CoinsAt w ps cs :=
 ⟨h.2 0 p c rfl rfl,by have:=h.1; simpa using this,fun i q d h1 h2=>h.2 (i+1) q d (by simpa using h1) (by simpa using h2)⟩
set_option maxRecDepth 100000 in
set_option maxHeartbeats 12800000 in
theorem zbh (v1 v2:Value) (ps1 ps2:List Value) (cs1 cs2:List Coin) (w:World) (h1:SlC w v1 ps1) (h2:SlC w v2 ps2) (k1:CoinsAt w ps1 cs1) (k2:CoinsAt w ps2 cs2) (hl1:ps1.length≤1000) (hl2:ps2.length≤1000) (h0:0<ps1.length+ps2.length) :
 Calls Tryz.prog 215 #[v1,v2,.func (.func 217) #[] #[]] w fun e w' => ∃ v ps,e = .returned v∧OwnC w w' v ps∧CoinsAt w' ps (zG cs1 cs2)∧Upd [] w w':=by
 obtain ⟨i0,hi,hz0,hz1,hz2⟩:=info_parts Xd
 have H1:=Lib.hid h1
 have H2:=Lib.hid h2
 have K1:=Lib.hid k1
 have K2:=Lib.hid k2
 have HL:=Lib.hid (show ps1.length≤1000∧ps2.length≤1000∧0<ps1.length+ps2.length from ⟨hl1,hl2,h0⟩)
 obtain ⟨a1,c1,rfl,-⟩:=h1
 obtain ⟨a2,c2,rfl,-⟩:=h2
 clear k1 k2 hl1 hl2 h0
 go_enter Tryz.func215,Tryz.ntmps215
 go_wp2
 go_loopg [0,1,6] 2000 (fun gg s0 s1 s6 wr => ∃ (pa pb po:List Value) (ca cb co:List Coin),Hid (SlC w s0 pa)∧Hid (SlC w s1 pb)∧Hid (CoinsAt w pa ca)∧Hid (CoinsAt w pb cb)∧Hid (CoinsAt w po co)∧Hid (OwnC w wr s6 po)∧Hid (Upd [] w wr)∧Hid (co++zG ca cb=zG cs1 cs2)∧Hid (po.length+pa.length+pb.length=ps1.length+ps2.length)∧gg=2000-po.length∧Hid (∃ x1 x2,s0 = .slice x1 pa.length x2)∧Hid (∃ x1 x2,s1 = .slice x1 pb.length x2))
 case atStart=>exact ⟨ps1,ps2,[],cs1,cs2,[],H1,H2,K1,K2,Lib.hid (CoinsAt.nil w),Lib.hid (OwnC.nil _ _),Lib.hid (Upd.refl _ _),Lib.hid rfl,Lib.hid (by simp),by simp,Lib.hid ⟨_,_,rfl⟩,Lib.hid ⟨_,_,rfl⟩⟩
 case round =>
  obtain ⟨pa,pb,po,ca,cb,co,HA,HB,KA,KB,KO,HO,HU,HE,HN,rfl,HF0,HF1⟩:=hrel
  obtain ⟨va,vc,rfl⟩:=HO.out.form
  obtain ⟨fl,hfl⟩ : ∃ fl,po.length=fl:=⟨_,rfl⟩
  rw [hfl] at HO ⊢
  have HFL:=Lib.hid hfl
  have hflb:fl≤2000:=by have:=HN.out; have:=HL.out; omega
  clear hfl
  have DONE : ∀ (x0:Option Addr) (y0:Nat) (x1:Option Addr) (y1:Nat),True:=fun _ _ _ _=>trivial
  clear DONE
  cases pa with
  | nil =>
    have hca:ca=[]:=List.eq_nil_of_length_eq_zero (by have:=KA.out.1; simpa using this.symm)
    subst hca
    obtain ⟨x1,x2,rfl⟩:=HF0.out
    obtain ⟨y1,y2,rfl⟩:=HF1.out
    have HFLT:Hid ((([po,([]:List Value),pb]:List (List Value)).flatten.length)=ps1.length+ps2.length):=Lib.hid (by have h1:=HN.out; simp only [List.flatten_cons,List.flatten_nil,List.length_append,List.length_nil,List.length_cons] at h1 ⊢; omega)
    have hB5:Blk (wr.alloc (.cells #[.slice va fl vc,.slice x1 (([]:List Value)).length x2,.slice y1 (pb).length y2] 259)) wr.heap.size [.slice va fl vc,.slice x1 (([]:List Value)).length x2,.slice y1 (pb).length y2] 259:=Blk.new _ _ _
    have hU5:Upd [] wr (wr.alloc (.cells #[.slice va fl vc,.slice x1 (([]:List Value)).length x2,.slice y1 (pb).length y2] 259)):=(Upd.refl _ _).alloc _
    have hSO:=(HO.out.upd hU5).slC
    have HCN:=Lib.hid (Xp _ [po,([]:List Value),pb] wr.heap.size 3 _ hB5 rfl rfl (by omega) (fun i v x hv hx=>by
     match i with
     | 0=>simp at hv hx; subst hv hx; exact hSO
     | 1=>simp at hv hx; subst hv hx; exact HA.out.upd (HU.out.then hU5)
     | 2=>simp at hv hx; subst hv hx; exact HB.out.upd (HU.out.then hU5)
     | k+3=>simp at hv) (fun x hx u hu=>by
       simp only [List.mem_cons,List.not_mem_nil,or_false] at hx
       rcases hx with rfl | rfl | rfl
       · exact KO.out.ones u hu
       · exact KA.out.ones u hu
       · exact KB.out.ones u hu) (by rw [HFLT.out]; have:=HL.out; omega) (by rw [HFLT.out]; have:=HL.out; omega))
    have HU5:=Lib.hid (HU.out.then hU5)
    have HFE:Hid (([po,([]:List Value),pb]:List (List Value)).flatten=po++(([]:List Value)++pb)):=Lib.hid (by simp)
    have HCE:Hid (co++(([]:List Coin)++cb)=zG cs1 cs2):=Lib.hid (by rw [← HE.out]; rw [ve]; rfl)
    rw [HFE.out] at HCN
    clear hB5 hU5 hSO
    have hz0x : ¬ (0:Int)<0:=by omega
    go_wp2_with fail
    refine HCN.out.mono ?_
    rintro e w9 ⟨v9,rfl,hO9,hU9⟩
    have HO9:=Lib.hid hO9
    have HU9:=Lib.hid (HU5.out.then hU9)
    have HS9:=Lib.hid hU9.size
    clear hO9 hU9
    go_wp2
    go_ret
    refine ⟨_,_,rfl,⟨HO9.out.1,fun k hk=>Nat.le_trans HU5.out.size (HO9.out.2 k hk)⟩,?_,HU9.out⟩
    rw [← HCE.out]
    exact (KO.out.append (KA.out.append KB.out)).upd HU9.out
  | cons P pa =>
    cases pb with
    | nil =>
      have hcb:cb=[]:=List.eq_nil_of_length_eq_zero (by have:=KB.out.1; simpa using this.symm)
      subst hcb
      have hnz:(0:Int)<(((P::pa).length:Nat):Int):=by rw [List.length_cons]; omega
      obtain ⟨x1,x2,rfl⟩:=HF0.out
      obtain ⟨y1,y2,rfl⟩:=HF1.out
      have HFLT:Hid ((([po,(P::pa),([]:List Value)]:List (List Value)).flatten.length)=ps1.length+ps2.length):=Lib.hid (by have h1:=HN.out; simp only [List.flatten_cons,List.flatten_nil,List.length_append,List.length_nil,List.length_cons] at h1 ⊢; omega)
      have hB5:Blk (wr.alloc (.cells #[.slice va fl vc,.slice x1 ((P::pa)).length x2,.slice y1 (([]:List Value)).length y2] 259)) wr.heap.size [.slice va fl vc,.slice x1 ((P::pa)).length x2,.slice y1 (([]:List Value)).length y2] 259:=Blk.new _ _ _
      have hU5:Upd [] wr (wr.alloc (.cells #[.slice va fl vc,.slice x1 ((P::pa)).length x2,.slice y1 (([]:List Value)).length y2] 259)):=(Upd.refl _ _).alloc _
      have hSO:=(HO.out.upd hU5).slC
      have HCN:=Lib.hid (Xp _ [po,(P::pa),([]:List Value)] wr.heap.size 3 _ hB5 rfl rfl (by omega) (fun i v x hv hx=>by
       match i with
       | 0=>simp at hv hx; subst hv hx; exact hSO
       | 1=>simp at hv hx; subst hv hx; exact HA.out.upd (HU.out.then hU5)
       | 2=>simp at hv hx; subst hv hx; exact HB.out.upd (HU.out.then hU5)
       | k+3=>simp at hv) (fun x hx u hu=>by
         simp only [List.mem_cons,List.not_mem_nil,or_false] at hx
         rcases hx with rfl | rfl | rfl
         · exact KO.out.ones u hu
         · exact KA.out.ones u hu
         · exact KB.out.ones u hu) (by rw [HFLT.out]; have:=HL.out; omega) (by rw [HFLT.out]; have:=HL.out; omega))
      have HU5:=Lib.hid (HU.out.then hU5)
      have HFE:Hid (([po,(P::pa),([]:List Value)]:List (List Value)).flatten=po++((P::pa)++([]:List Value))):=Lib.hid (by simp)
      have HCE:Hid (co++(ca++([]:List Coin))=zG cs1 cs2):=Lib.hid (by rw [← HE.out]; rw [js,List.append_nil])
      rw [HFE.out] at HCN
      clear hB5 hU5 hSO
      skip
      go_wp2_with fail
      refine HCN.out.mono ?_
      rintro e w9 ⟨v9,rfl,hO9,hU9⟩
      have HO9:=Lib.hid hO9
      have HU9:=Lib.hid (HU5.out.then hU9)
      have HS9:=Lib.hid hU9.size
      clear hO9 hU9
      go_wp2
      go_ret
      refine ⟨_,_,rfl,⟨HO9.out.1,fun k hk=>Nat.le_trans HU5.out.size (HO9.out.2 k hk)⟩,?_,HU9.out⟩
      rw [← HCE.out]
      exact (KO.out.append (KA.out.append KB.out)).upd HU9.out
    | cons Q pb =>
      cases ca with
      | nil=>have:=KA.out.1; simp at this
      | cons x ca =>
        cases cb with
        | nil=>have:=KB.out.1; simp at this
        | cons y cb =>
        obtain ⟨ba,oa,ka,rfl,hka,hda,hta1,hta2⟩:=HA.out.cons
        obtain ⟨bb,ob,kb,rfl,hkb,hdb,htb1,htb2⟩:=HB.out.cons
        have HDA:=Lib.hid hda
        have HDB:=Lib.hid hdb
        have HTA:=Lib.hid (And.intro hta1 hta2)
        have HTB:=Lib.hid (And.intro htb1 htb2)
        have HCX:=Lib.hid KA.out.cons.1
        have HCY:=Lib.hid KB.out.cons.1
        have KA2:=Lib.hid KA.out.cons.2
        have KB2:=Lib.hid KB.out.cons.2
        obtain ⟨bp,up_,vp_,rfl,-⟩:=HCX.out.head
        obtain ⟨bq,uq_,vq_,rfl,-⟩:=HCY.out.head
        have HONEP:=Lib.hid HCX.out.one
        have HONEQ:=Lib.hid HCY.out.one
        have HLN:Hid (fl+(pa.length+1)+(pb.length+1)=ps1.length+ps2.length):=Lib.hid (by have:=HN.out; rw [HFL.out] at this; simpa using this)
        have HMC:Hid (zG (x::ca) (y::cb)=if x.w≤y.w then x::zG ca (y::cb) else y::zG (x::ca) cb):=Lib.hid (kd x y ca cb)
        have hna:(0:Int)<((pa.length+1:Nat):Int):=by omega
        have hnb:(0:Int)<((pb.length+1:Nat):Int):=by omega
        have HNA:=Lib.hid (show pa.length+1≤ka∧pb.length+1≤kb from ⟨hka,hkb⟩)
        obtain ⟨na,hnae⟩ : ∃ na,pa.length=na:=⟨_,rfl⟩
        obtain ⟨nb,hnbe⟩ : ∃ nb,pb.length=nb:=⟨_,rfl⟩
        rw [hnae] at HTA HNA hna hka HA ⊢
        rw [hnbe] at HTB HNA hnb hkb HB ⊢
        have HNAE:=Lib.hid hnae
        have HNBE:=Lib.hid hnbe
        clear hda hdb hta1 hta2 htb1 htb2 HF0 HF1 HN hnae hnbe
        go_upto_region 2 with fail
        go_cut [22] (fun s22 wx=>s22 = .bool (decide (y.w<x.w))∧Upd [] wr wx)
        case first =>
         refine wp_region_held_drew (S:=fun w'=>Upd [] wr w') (by kernel_rfl) (Upd.refl _ _).drew (fun hHeld=>hdN ?_)
         refine hdT 0 (some 15) ?_; refine hdT 1 (some 16) ?_; refine hdT 2 (some 17) ?_
         refine hdT 3 (some 18) ?_ (hy:=by intro w0 hSw; have q0:=((HU.out.then hSw).at (jl HDB.out) (by simp) _).trans HDB.out; go_simp; try with_reducible rfl)
         refine hdT 4 (some 19) ?_; refine hdT 5 (some 20) ?_
         refine hdT 6 (some 21) ?_ (hy:=by intro w0 hSw; have q0:=((HU.out.then hSw).at (jl HDA.out) (by simp) _).trans HDA.out; go_simp; try with_reducible rfl)
         refine hdO 7 (fun K hK=>?_)
         go_simp
         refine (zgH _ _ _ _ _ (HCY.out.upd (HU.out.then hHeld)) (HCX.out.upd (HU.out.then hHeld))).mono ?_
         rintro e z1 ⟨rfl,hz1⟩
         go_wp2
         refine hK.out _ _ (hHeld.then hz1) (fun hHeld=>hdN ?_)
         clear hK K
         refine wpAnyH_done (by kernel_rfl) ?_ 0
         go_wp2
         go_meet
         exact ⟨rfl,hHeld⟩
        case rest =>
         obtain ⟨rfl,hUr⟩:=hcut
         have HU2:=Lib.hid (HU.out.then hUr)
         have HO2:=Lib.hid (HO.out.upd hUr)
         clear hUr HU HO
         by_cases hlt:y.w<x.w
         · have HM2:Hid (zG (x::ca) (y::cb)=y::zG (x::ca) cb):=Lib.hid (by rw [HMC.out,if_neg (by omega)])
           rw [decide_eq_true hlt]
           clear hlt HMC
           go_wp2_with fail
           by_cases hcc:1<kb
           · have hkz : ¬ kb=1:=by omega
             have hk1z:(1:Int)≤((nb:Nat):Int)+1:=by omega
             refine wp_region_held_drew (S:=fun w'=>Upd [] w w') (by kernel_rfl) HU2.out.drew (fun hHeld=>hdN ?_)
             refine hdT 0 (some 23) ?_; refine hdT 1 (some 24) ?_; refine hdT 2 (some 25) ?_
             refine hdT 3 (some 26) ?_ (hy:=by intro w0 hSw; have q0:=(hSw.at (jl HDB.out) (by simp) _).trans HDB.out; go_simp; try with_reducible rfl)
             refine hdT 6 (some 29) ?_; refine hdT 7 (some 30) ?_
             refine hdO 4 (fun K hK=>?_)
             go_simp
             skip
             go_wp2
             refine hK.out _ _ (hHeld.alloc _) (fun hHeld=>hdN ?_)
             clear hK K
             refine hdO 5 (fun K hK=>?_)
             have hRz:=(HO2.out.1.alloc (.cells #[(Value.pointer (some ⟨bq,0,none⟩))] 260)).drew
             rw [HFL.out] at hRz
             refine je _ rfl _ _ 259 rfl 260 i0 _ 1 8 Tryz.underlying259 hi hz0 hz1 hz2 rfl (by omega) (.slice va fl vc) fl _ rfl hRz ⟨wc.heap.size,0,none⟩ 1 1 [(Value.pointer (some ⟨bq,0,none⟩))] rfl rfl (World.news_of_block (cs := #[(Value.pointer (some ⟨bq,0,none⟩))]) (t:=260) (fr:=(0,0)) (heap_alloc_new _ _)) (by simpa using HONEQ.out) (by unfold maxLen; omega) (by omega) ?_
             intro v4 w4 hR4 hU4 hT4
             show K (Act.put _ (some 28) v4) w4
             have hap:=zhv HO2.out HU2.out (.cells #[(Value.pointer (some ⟨bq,0,none⟩))] 260) (ys:=[(Value.pointer (some ⟨bq,0,none⟩))]) (by rw [HFL.out]; exact hR4) hU4 hT4
             refine hK.out _ _ hap.2 (fun hHeld=>hdN ?_)
             clear hK K
             refine hdT 8 (some 6) ?_; refine hdT 9 (some 1) ?_
             refine wpAnyH_done (by kernel_rfl) ?_ 0
             have HAP:=Lib.hid hap
             clear hap hR4 hU4 hT4 hRz
             go_wp2
             go_roundg (2000-(fl+1))
             · refine ⟨_::pa,pb,po++[Value.pointer (some ⟨bq,0,none⟩)],x::ca,cb,co++[y],HA,Lib.hid ?_,KA,KB2,Lib.hid (KO.out.snoc HCY.out),Lib.hid HAP.out.1,Lib.hid HAP.out.2,Lib.hid (by rw [List.append_assoc,List.singleton_append,← HM2.out]; exact HE.out),Lib.hid (by have h1:=HLN.out; have h2:=HFL.out; have h3:=HNAE.out; have h4:=HNBE.out; simp only [List.length_append,List.length_cons,List.length_nil]; omega),by rw [List.length_append,HFL.out]; rfl,Lib.hid (km (by rw [List.length_cons,HNAE.out])),Lib.hid (km HNBE.out)⟩
               · exact HTB.out.2 hcc
             · have h1:=HFL.out; have h2:=HLN.out; have h3:=HL.out; omega
           · have hcc:kb=1:=by omega
             have hn0:nb=0:=by omega
             subst hcc hn0
             have hcc:(1:Nat)=1:=rfl
             refine wp_region_held_drew (S:=fun w'=>Upd [] w w') (by kernel_rfl) HU2.out.drew (fun hHeld=>hdN ?_)
             refine hdT 0 (some 23) ?_; refine hdT 1 (some 24) ?_; refine hdT 2 (some 25) ?_
             refine hdT 3 (some 26) ?_ (hy:=by intro w0 hSw; have q0:=(hSw.at (jl HDB.out) (by simp) _).trans HDB.out; go_simp; try with_reducible rfl)
             refine hdT 6 (some 29) ?_; refine hdT 7 (some 30) ?_
             refine hdO 4 (fun K hK=>?_)
             go_simp
             skip
             go_wp2
             refine hK.out _ _ (hHeld.alloc _) (fun hHeld=>hdN ?_)
             clear hK K
             refine hdO 5 (fun K hK=>?_)
             have hRz:=(HO2.out.1.alloc (.cells #[(Value.pointer (some ⟨bq,0,none⟩))] 260)).drew
             rw [HFL.out] at hRz
             refine je _ rfl _ _ 259 rfl 260 i0 _ 1 8 Tryz.underlying259 hi hz0 hz1 hz2 rfl (by omega) (.slice va fl vc) fl _ rfl hRz ⟨wc.heap.size,0,none⟩ 1 1 [(Value.pointer (some ⟨bq,0,none⟩))] rfl rfl (World.news_of_block (cs := #[(Value.pointer (some ⟨bq,0,none⟩))]) (t:=260) (fr:=(0,0)) (heap_alloc_new _ _)) (by simpa using HONEQ.out) (by unfold maxLen; omega) (by omega) ?_
             intro v4 w4 hR4 hU4 hT4
             show K (Act.put _ (some 28) v4) w4
             have hap:=zhv HO2.out HU2.out (.cells #[(Value.pointer (some ⟨bq,0,none⟩))] 260) (ys:=[(Value.pointer (some ⟨bq,0,none⟩))]) (by rw [HFL.out]; exact hR4) hU4 hT4
             refine hK.out _ _ hap.2 (fun hHeld=>hdN ?_)
             clear hK K
             refine hdT 8 (some 6) ?_; refine hdT 9 (some 1) ?_
             refine wpAnyH_done (by kernel_rfl) ?_ 0
             have HAP:=Lib.hid hap
             clear hap hR4 hU4 hT4 hRz
             go_wp2
             go_roundg (2000-(fl+1))
             · refine ⟨_::pa,pb,po++[Value.pointer (some ⟨bq,0,none⟩)],x::ca,cb,co++[y],HA,Lib.hid ?_,KA,KB2,Lib.hid (KO.out.snoc HCY.out),Lib.hid HAP.out.1,Lib.hid HAP.out.2,Lib.hid (by rw [List.append_assoc,List.singleton_append,← HM2.out]; exact HE.out),Lib.hid (by have h1:=HLN.out; have h2:=HFL.out; have h3:=HNAE.out; have h4:=HNBE.out; simp only [List.length_append,List.length_cons,List.length_nil]; omega),by rw [List.length_append,HFL.out]; rfl,Lib.hid (km (by rw [List.length_cons,HNAE.out])),Lib.hid (km HNBE.out)⟩
               · exact (HTB.out.1 hcc).2
             · have h1:=HFL.out; have h2:=HLN.out; have h3:=HL.out; omega
         · have HM2:Hid (zG (x::ca) (y::cb)=x::zG ca (y::cb)):=Lib.hid (by rw [HMC.out,if_pos (by omega)])
           rw [decide_eq_false hlt]
           clear hlt HMC
           go_wp2_with fail
           by_cases hcc:1<ka
           · have hkz : ¬ ka=1:=by omega
             have hk1z:(1:Int)≤((na:Nat):Int)+1:=by omega
             refine wp_region_held_drew (S:=fun w'=>Upd [] w w') (by kernel_rfl) HU2.out.drew (fun hHeld=>hdN ?_)
             refine hdT 0 (some 31) ?_; refine hdT 1 (some 32) ?_; refine hdT 2 (some 33) ?_
             refine hdT 3 (some 34) ?_ (hy:=by intro w0 hSw; have q0:=(hSw.at (jl HDA.out) (by simp) _).trans HDA.out; go_simp; try with_reducible rfl)
             refine hdT 6 (some 37) ?_; refine hdT 7 (some 38) ?_
             refine hdO 4 (fun K hK=>?_)
             go_simp
             skip
             go_wp2
             refine hK.out _ _ (hHeld.alloc _) (fun hHeld=>hdN ?_)
             clear hK K
             refine hdO 5 (fun K hK=>?_)
             have hRz:=(HO2.out.1.alloc (.cells #[(Value.pointer (some ⟨bp,0,none⟩))] 260)).drew
             rw [HFL.out] at hRz
             refine je _ rfl _ _ 259 rfl 260 i0 _ 1 8 Tryz.underlying259 hi hz0 hz1 hz2 rfl (by omega) (.slice va fl vc) fl _ rfl hRz ⟨wc.heap.size,0,none⟩ 1 1 [(Value.pointer (some ⟨bp,0,none⟩))] rfl rfl (World.news_of_block (cs := #[(Value.pointer (some ⟨bp,0,none⟩))]) (t:=260) (fr:=(0,0)) (heap_alloc_new _ _)) (by simpa using HONEP.out) (by unfold maxLen; omega) (by omega) ?_
             intro v4 w4 hR4 hU4 hT4
             show K (Act.put _ (some 36) v4) w4
             have hap:=zhv HO2.out HU2.out (.cells #[(Value.pointer (some ⟨bp,0,none⟩))] 260) (ys:=[(Value.pointer (some ⟨bp,0,none⟩))]) (by rw [HFL.out]; exact hR4) hU4 hT4
             refine hK.out _ _ hap.2 (fun hHeld=>hdN ?_)
             clear hK K
             refine hdT 8 (some 6) ?_; refine hdT 9 (some 0) ?_
             refine wpAnyH_done (by kernel_rfl) ?_ 0
             have HAP:=Lib.hid hap
             clear hap hR4 hU4 hT4 hRz
             go_wp2
             go_roundg (2000-(fl+1))
             · refine ⟨pa,_::pb,po++[Value.pointer (some ⟨bp,0,none⟩)],ca,y::cb,co++[x],Lib.hid ?_,HB,KA2,KB,Lib.hid (KO.out.snoc HCX.out),Lib.hid HAP.out.1,Lib.hid HAP.out.2,Lib.hid (by rw [List.append_assoc,List.singleton_append,← HM2.out]; exact HE.out),Lib.hid (by have h1:=HLN.out; have h2:=HFL.out; have h3:=HNAE.out; have h4:=HNBE.out; simp only [List.length_append,List.length_cons,List.length_nil]; omega),by rw [List.length_append,HFL.out]; rfl,Lib.hid (km HNAE.out),Lib.hid (km (by rw [List.length_cons,HNBE.out]))⟩
               · exact HTA.out.2 hcc
             · have h1:=HFL.out; have h2:=HLN.out; have h3:=HL.out; omega
           · have hcc:ka=1:=by omega
             have hn0:na=0:=by omega
             subst hcc hn0
             have hcc:(1:Nat)=1:=rfl
             refine wp_region_held_drew (S:=fun w'=>Upd [] w w') (by kernel_rfl) HU2.out.drew (fun hHeld=>hdN ?_)
             refine hdT 0 (some 31) ?_; refine hdT 1 (some 32) ?_; refine hdT 2 (some 33) ?_
             refine hdT 3 (some 34) ?_ (hy:=by intro w0 hSw; have q0:=(hSw.at (jl HDA.out) (by simp) _).trans HDA.out; go_simp; try with_reducible rfl)
             refine hdT 6 (some 37) ?_; refine hdT 7 (some 38) ?_
             refine hdO 4 (fun K hK=>?_)
             go_simp
             skip
             go_wp2
             refine hK.out _ _ (hHeld.alloc _) (fun hHeld=>hdN ?_)
             clear hK K
             refine hdO 5 (fun K hK=>?_)
             have hRz:=(HO2.out.1.alloc (.cells #[(Value.pointer (some ⟨bp,0,none⟩))] 260)).drew
             rw [HFL.out] at hRz
             refine je _ rfl _ _ 259 rfl 260 i0 _ 1 8 Tryz.underlying259 hi hz0 hz1 hz2 rfl (by omega) (.slice va fl vc) fl _ rfl hRz ⟨wc.heap.size,0,none⟩ 1 1 [(Value.pointer (some ⟨bp,0,none⟩))] rfl rfl (World.news_of_block (cs := #[(Value.pointer (some ⟨bp,0,none⟩))]) (t:=260) (fr:=(0,0)) (heap_alloc_new _ _)) (by simpa using HONEP.out) (by unfold maxLen; omega) (by omega) ?_
             intro v4 w4 hR4 hU4 hT4
             show K (Act.put _ (some 36) v4) w4
             have hap:=zhv HO2.out HU2.out (.cells #[(Value.pointer (some ⟨bp,0,none⟩))] 260) (ys:=[(Value.pointer (some ⟨bp,0,none⟩))]) (by rw [HFL.out]; exact hR4) hU4 hT4
             refine hK.out _ _ hap.2 (fun hHeld=>hdN ?_)
             clear hK K
             refine hdT 8 (some 6) ?_; refine hdT 9 (some 0) ?_
             refine wpAnyH_done (by kernel_rfl) ?_ 0
             have HAP:=Lib.hid hap
             clear hap hR4 hU4 hT4 hRz
             go_wp2
             go_roundg (2000-(fl+1))
             · refine ⟨pa,_::pb,po++[Value.pointer (some ⟨bp,0,none⟩)],ca,y::cb,co++[x],Lib.hid ?_,HB,KA2,KB,Lib.hid (KO.out.snoc HCX.out),Lib.hid HAP.out.1,Lib.hid HAP.out.2,Lib.hid (by rw [List.append_assoc,List.singleton_append,← HM2.out]; exact HE.out),Lib.hid (by have h1:=HLN.out; have h2:=HFL.out; have h3:=HNAE.out; have h4:=HNBE.out; simp only [List.length_append,List.length_cons,List.length_nil]; omega),by rw [List.length_append,HFL.out]; rfl,Lib.hid (km HNAE.out),Lib.hid (km (by rw [List.length_cons,HNBE.out]))⟩
               · exact (HTA.out.1 hcc).2
             · have h1:=HFL.out; have h2:=HLN.out; have h3:=HL.out; omega
end Go.Proofs.YtfkcdnaghndgfaaGreatDoor
namespace Go.Proofs.YtfkcdnaghndgfaaGreatDoor
open Go.RowKit
theorem zib (w:World) (cs:Array Value) (t:TypeId) (p:Value) (e:TypeId) (hp:p.oneCell'=true) : ∀ j u,[p][j]? =some u→(((w.alloc (.cells cs t)).alloc (.cells #[p] e)).drew).cell? ((⟨w.heap.size+1,0,none⟩:Addr).add j)=some u:=by
 intro j u hu
 cases j with
 | zero =>
   simp at hu
   subst hu
   rw [add_zero]
   have:=(Blk.new (w.alloc (.cells cs t)) [p] e).cell 0 rfl
   rw [World.size_alloc] at this
   exact this
 | succ j=>simp at hu
theorem Qx : ∀ (cs:List Coin) (k:Nat) {i:Nat} (hi:i=2*k) (h:i+1<cs.length),(yx cs)[k]? =some (.pack cs[i] cs[i+1])
 | [],k,i,hi,h=>by simp at h
 | [_],k,i,hi,h=>by simp at h
 | a::b::r,0,i,hi,h=>by subst hi; rfl
 | a::b::r,k+1,i,hi,h=>by
   subst hi
   have ih:=Qx r k (i:=2*k) rfl (by simp at h; omega)
   show (yx r)[k]? =_
   rw [ih]
   rfl
theorem Row.neB {w:World} {e t:TypeId} {size n b:Nat} {v:Value} {xs cs:List Value} (h:Row w e size v n xs) (hB:Blk w b cs t) (ht:t≠e):v.ownBlock≠some b:=by
 rcases h.2 with ⟨rfl,rfl⟩ | ⟨g',cap,cur,rfl,hb,hh,_⟩
 · simp [Value.ownBlock]
 · intro e2
   simp [Value.ownBlock] at e2
   subst e2
   unfold Blk at hB
   rw [hh] at hB
   simp at hB
   exact ht hB.2.symm
def zgC (w0 w:World) (bg kk:Nat) (j:Nat) (p:Value) (c:Coin):Prop := ∃ b,p = .pointer (some ⟨b,0,none⟩)∧w0.heap.size≤b∧Blk w b [.int .i64 (c.w:Nat),.int .i64 0,.slice (some ⟨bg,2*j,none⟩) 2 (kk-2*j)] 262
set_option maxRecDepth 100000 in
set_option maxHeartbeats 6400000 in
theorem zb4 (v:Value) (ps:List Value) (cs:List Coin) (w:World) (h:Row w 260 1 v ps.length ps) (k:CoinsAt w ps cs) (hl:ps.length≤1000) (hw : ∀ c∈cs,c.w≤70368744177664) :
 Calls Tryz.prog 216 #[v] w fun e w' => ∃ v' ps',e = .returned v'∧OwnC w w' v' ps'∧CoinsAt w' ps' (yx cs)∧Upd [] w w':=by
 obtain ⟨i0,hi,hz0,hz1,hz2⟩:=info_parts Xd
 have HR:=Lib.hid h
 have K:=Lib.hid k
 have HW:=Lib.hid hw
 obtain ⟨a,kc,rfl⟩:=h.form
 obtain ⟨n,hn⟩ : ∃ n,ps.length=n:=⟨_,rfl⟩
 rw [hn] at hl HR ⊢
 have HN:=Lib.hid hn
 clear h k hw hn
 go_enter Tryz.func216,Tryz.ntmps216
 go_wp2
 go_loopg [2,3] 1000 (fun gg s2 s3 wr => ∃ (k i:Nat) (po:List Value),Hid (i=2*k)∧i≤n∧gg=1000-k∧s3 = .int .i64 (i:Nat)∧Hid (OwnC w wr s2 po)∧Hid (Upd [] w wr)∧Hid (po.length=k)∧Hid (∀ j p c,po[j]? =some p→(yx cs)[j]? =some c → ∃ bg,a=some ⟨bg,0,none⟩∧zgC w wr bg kc j p c))
 case atStart=>exact ⟨0,0,[],Lib.hid rfl,by omega,rfl,rfl,Lib.hid (OwnC.nil _ _),Lib.hid (Upd.refl _ _),Lib.hid rfl,Lib.hid (fun j p c h=>by simp at h)⟩
 case round =>
  obtain ⟨k,i,po,HIK,hin,rfl,rfl,HO,HU,HPL,HPA⟩:=hrel
  by_cases hc:i+1<n
  · have hcz:(i:Int)+1<(n:Int):=by omega
    have hi0:i<ps.length:=by rw [HN.out]; omega
    have hi1:i+1<ps.length:=by rw [HN.out]; exact hc
    obtain ⟨bg,kc2,hkk,hbg,hnk⟩:=HR.out.form' (by omega)
    have e1:a=some ⟨bg,0,none⟩:=by injection hkk
    have e2:kc=kc2:=by injection hkk
    subst e1 e2
    have hc0:=HR.out.cell i (List.getElem?_eq_getElem hi0)
    have hc1:=HR.out.cell (i+1) (List.getElem?_eq_getElem hi1)
    have hj0:i<cs.length:=by rw [← K.out.1]; exact hi0
    have hj1:i+1<cs.length:=by rw [← K.out.1]; exact hi1
    have hk0:=K.out.2 i _ _ (List.getElem?_eq_getElem hi0) (List.getElem?_eq_getElem hj0)
    have hk1:=K.out.2 (i+1) _ _ (List.getElem?_eq_getElem hi1) (List.getElem?_eq_getElem hj1)
    have hw0:=HW.out _ (List.getElem_mem hj0)
    have hw1:=HW.out _ (List.getElem_mem hj1)
    have HPK:Hid ((yx cs)[k]? =some (.pack cs[i] cs[i+1])):=Lib.hid (Qx cs k (i:=i) HIK.out hj1)
    generalize ps[i]=P0 at *
    generalize ps[i+1]=P1 at *
    generalize cs[i]=x at *
    generalize cs[i+1]=y at *
    obtain ⟨b0,u0,v0,rfl,hB0⟩:=hk0.head
    obtain ⟨b1,u1,v1,rfl,hB1⟩:=hk1.head
    have hd0:=hB0.cell 0 rfl
    have hd1:=hB1.cell 0 rfl
    have HXW:Hid ((Coin.pack x y).w=x.w+y.w):=Lib.hid rfl
    generalize x.w=m1 at *
    generalize y.w=m2 at *
    have HC0:=Lib.hid hc0
    have HC1:=Lib.hid hc1
    have HW0:=Lib.hid hd0
    have HW1:=Lib.hid hd1
    have HNK:=Lib.hid hnk
    obtain ⟨va,vc,rfl⟩:=HO.out.form
    obtain ⟨fl,hfl⟩ : ∃ fl,po.length=fl:=⟨_,rfl⟩
    rw [hfl] at HO HPL ⊢
    have HFL:=Lib.hid hfl
    have hflb:fl≤1000:=by have:=HPL.out; have:=HIK.out; omega
    have hs1:IntKind.i64.wrap ((i:Int)+1)=((i+1:Nat):Int):=by rw [IntWalk.i64_in _ (by omega)]; rfl
    have hs2:IntKind.i64.wrap ((i:Int)+2)=((i+2:Nat):Int):=by rw [IntWalk.i64_in _ (by omega)]; rfl
    have hs3:IntKind.i64.wrap ((m1:Int)+(m2:Int))=((m1+m2:Nat):Int):=by rw [IntWalk.i64_in _ (by omega)]; simp
    have hb0:(i:Int)<(n:Int):=by omega
    have hb1:((i+1:Nat):Int)<(n:Int):=by omega
    have hb2:((i+2:Nat):Int)≤(kc:Int):=by omega
    have hb3:i+2-i=2:=by omega
    have hb7:(0:Int)≤(i:Int)+1:=by omega
    have hb8:(0:Int)≤(i:Int)+2:=by omega
    have hb9:(i:Int)+2≤(kc:Int):=by omega
    have hb10:(i:Int)≤(i:Int)+2:=by omega
    have hb4:i+2≤kc:=by omega
    have hb5 : ¬ kc=i:=by omega
    have hb6:(i:Int)≤((i+2:Nat):Int):=by omega
    clear hfl hc0 hc1 hd0 hd1 hk0 hk1 hB0 hB1 hi0 hi1 hj0 hj1 hkk
    go_wp2_with fail
    refine wp_region_held_drew (S:=fun w'=>Upd [] w w') (by kernel_rfl) HU.out.drew (fun hHeld=>hdN ?_)
    refine hdT 0 (some 11) ?_; refine hdT 1 (some 12) ?_; refine hdT 2 (some 13) ?_; refine hdT 3 (some 14) ?_
    refine hdT 4 (some 15) ?_ (hy:=by intro w0 hSw; have q0:=(hSw.at (jl HC0.out) (by simp) _).trans HC0.out; go_simp; try with_reducible rfl)
    refine hdT 5 (some 16) ?_; refine hdT 6 (some 17) ?_
    refine hdT 7 (some 18) ?_ (hy:=by intro w0 hSw; have q0:=(hSw.at (jl HW0.out) (by simp) _).trans HW0.out; go_simp; try with_reducible rfl)
    refine hdT 8 (some 19) ?_; refine hdT 9 (some 20) ?_
    refine hdT 10 (some 21) ?_ (hy:=by intro w0 hSw; go_simp; all_goals rw [hs1]) (v := .int .i64 ((i+1:Nat):Int)); refine hdT 11 (some 22) ?_
    refine hdT 12 (some 23) ?_ (hy:=by intro w0 hSw; have q0:=(hSw.at (jl HC1.out) (by simp) _).trans HC1.out; go_simp; try with_reducible rfl)
    refine hdT 13 (some 24) ?_; refine hdT 14 (some 25) ?_
    refine hdT 15 (some 26) ?_ (hy:=by intro w0 hSw; have q0:=(hSw.at (jl HW1.out) (by simp) _).trans HW1.out; go_simp; try with_reducible rfl)
    refine hdT 16 (some 27) ?_ (hy:=by intro w0 hSw; go_simp; all_goals rw [hs3]) (v := .int .i64 ((m1+m2:Nat):Int)); refine hdT 17 (some 28) ?_
    refine hdT 18 (some 29) ?_; refine hdT 19 (some 30) ?_
    refine hdT 20 (some 31) ?_ (hy:=by intro w0 hSw; go_simp; all_goals rw [hs2]) (v := .int .i64 ((i+2:Nat):Int))
    refine hdT 21 (some 32) ?_ (hy:=by intro w0 hSw; go_simp; all_goals omega) (v := .slice (some ⟨bg,i,none⟩) 2 (kc-i)); refine hdT 22 (some 33) ?_
    refine hdO 23 (fun K hK=>?_)
    go_simp
    skip
    go_wp2
    refine hK.out _ _ (hHeld.alloc _) (fun hHeld=>hdN ?_)
    clear hK K
    refine hdO 24 (fun K hK=>?_)
    go_simp
    skip
    go_wp2
    refine hK.out _ _ (hHeld.alloc _) (fun hHeld=>hdN ?_)
    clear hK K
    refine hdO 25 (fun K hK=>?_)
    have hRz:=((HO.out.1.alloc (.cells #[.int .i64 ((m1+m2:Nat):Int),.int .i64 0,.slice (some ⟨bg,i,none⟩) 2 (kc-i)] 262)).alloc (.cells #[.pointer (some ⟨wr.heap.size,0,none⟩)] 260)).drew
    rw [HFL.out] at hRz
    refine je _ rfl _ _ 259 rfl 260 i0 _ 1 8 Tryz.underlying259 hi hz0 hz1 hz2 rfl (by omega) (.slice va fl vc) fl _ rfl hRz ⟨wr.heap.size+1,0,none⟩ 1 1 [.pointer (some ⟨wr.heap.size,0,none⟩)] rfl rfl (zib _ _ _ _ _ rfl) (by simp [Value.oneCell']) (by unfold maxLen; omega) (by omega) ?_
    intro v4 w4 hR4 hU4 hT4
    show K (Act.put _ (some 36) v4) w4
    refine hK.out _ _ (hHeld.trans hU4 (fun q hq => .inr (HO.out.2 q (by simpa using hq)))) (fun hHeld=>hdN ?_)
    clear hK K
    refine hdT 26 (some 2) ?_
    refine wpAnyH_done (by kernel_rfl) ?_ 0
    have hmm:Upd [] wr (((wr.alloc (.cells #[.int .i64 ((m1+m2:Nat):Int),.int .i64 0,.slice (some ⟨bg,i,none⟩) 2 (kc-i)] 262)).alloc (.cells #[.pointer (some ⟨wr.heap.size,0,none⟩)] 260)).drew):=(((Upd.refl _ _).alloc _).alloc _).drew
    have hap:=(HO.out.upd hmm).app (HU.out.then hmm) (ys:=[.pointer (some ⟨wr.heap.size,0,none⟩)]) (by rw [HFL.out]; exact hR4) hU4 hT4
    have hnb:Blk w4 wr.heap.size [.int .i64 ((m1+m2:Nat):Int),.int .i64 0,.slice (some ⟨bg,i,none⟩) 2 (kc-i)] 262:=(((Blk.new wr [.int .i64 ((m1+m2:Nat):Int),.int .i64 0,.slice (some ⟨bg,i,none⟩) 2 (kc-i)] 262).alloc (.cells #[.pointer (some ⟨wr.heap.size,0,none⟩)] 260)).drew).upd hU4 (fun hm=>by have:=HO.out.1.lt _ (by simpa using hm); omega)
    have hpa2 : ∀ j p c,(po++[.pointer (some ⟨wr.heap.size,0,none⟩)])[j]? =some p→(yx cs)[j]? =some c → ∃ bg2,some (⟨bg,0,none⟩:Addr)=some ⟨bg2,0,none⟩∧zgC w w4 bg2 kc j p c:=by
     intro j p c hp hcc
     by_cases hjk:j<po.length
     · rw [List.getElem?_append_left hjk] at hp
       obtain ⟨bg2,hb2,b,hb,hle,hBb⟩:=HPA.out j p c hp hcc
       exact ⟨bg2,hb2,b,hb,hle,(hBb.upd hmm (by simp)).upd hU4 (fun hm=>(HO.out.1.neB hBb (by decide)) (by simpa using hm))⟩
     · rw [List.getElem?_append_right (by omega)] at hp
       have hj0:j=k:=by
        have hl:=(List.getElem?_eq_some_iff.1 hp).1
        have:=HFL.out; have:=HPL.out
        simp at hl; omega
       subst hj0
       rw [HFL.out,HPL.out,Nat.sub_self] at hp
       rw [HPK.out] at hcc
       simp at hp hcc
       subst hp hcc
       refine ⟨bg,rfl,_,rfl,HU.out.size,?_⟩
       rw [HXW.out,← HIK.out]
       exact hnb
    have HAP:=Lib.hid hap
    have HPA2:=Lib.hid hpa2
    clear hap hpa2 hnb hmm hR4 hU4 hT4 hRz
    go_wp2
    go_roundg (1000-(k+1))
    · exact ⟨k+1,i+2,_,Lib.hid (by have:=HIK.out; omega),by omega,rfl,by first | rfl | go_num,Lib.hid HAP.out.1,Lib.hid HAP.out.2,Lib.hid (by rw [List.length_append,HFL.out,HPL.out]; rfl),HPA2⟩
    · have:=HIK.out; omega
  · have hcz : ¬ (i:Int)+1<(n:Int):=by omega
    have hCS:CoinsAt wr po (yx cs):=by
     have hl:po.length=(yx cs).length:=by
      rw [yP,← K.out.1,HN.out,HPL.out]
      have:=HIK.out
      omega
     refine ⟨hl,fun j p c hp hcc=>?_⟩
     obtain ⟨bg,hbg,b,rfl,hle,hBb⟩:=HPA.out j p c hp hcc
     cases hbg
     have hj:=(List.getElem?_eq_some_iff.1 hp).1
     rw [hl,yP] at hj
     have h2:2*j+1<cs.length:=by omega
     rw [Qx cs j (i:=2*j) rfl h2] at hcc
     cases hcc
     rcases HR.out.2 with ⟨e,_⟩ | ⟨g,c2,cur,e,hb,hh,hnc,hcm,hcs,htk⟩
     · cases e
     · injection e with e1 e2 e3
       injection e1 with e1
       injection e1 with e1 _
       subst e1 e3
       have h3:2*j+1<ps.length:=by rw [K.out.1]; exact h2
       have hcur : ∀ q,q<ps.length→cur[q]? =ps[q]?:=fun q hq=>by
        rw [← htk,List.getElem?_take,if_pos (by rw [HN.out] at hq; omega)]
        simp
       exact ⟨b,bg,2*j,kc-2*j,_,_,cur,(0,0),rfl,hBb,(HU.out.block bg (Array.getElem?_eq_some_iff.1 hh).1 (by simp)).trans hh,
        (hcur _ (by omega)).trans (List.getElem?_eq_getElem (by omega)),(hcur _ h3).trans (List.getElem?_eq_getElem h3),
        (K.out.2 _ _ _ (List.getElem?_eq_getElem (by omega)) (List.getElem?_eq_getElem (by omega))).upd HU.out,(K.out.2 _ _ _ (List.getElem?_eq_getElem h3) (List.getElem?_eq_getElem h2)).upd HU.out⟩
    have HCS:=Lib.hid hCS
    clear hCS
    go_wp2
    go_ret
    first
     | exact ⟨_,rfl,po,HO.out,HCS.out,HU.out⟩
     | exact ⟨_,po,rfl,HO.out,HCS.out,HU.out⟩
end Go.Proofs.YtfkcdnaghndgfaaGreatDoor
