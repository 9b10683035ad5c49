/- Package block: symbols: its walk. -/
import Derived.Test.YtfkcdnaghndgfaaGreatDoorQBP
import Derived.Test.YtfkcdnaghndgfaaGreatDoorQAC
set_option linter.unusedVariables false
set_option linter.unusedSimpArgs false
set_option linter.unusedSectionVars false
namespace Go.Proofs.YtfkcdnaghndgfaaGreatDoor
open Go.RowKit
theorem zdJ {na:List Nat} (h : ∀ x∈na,x≤15) (j:Nat):na.getD j 0≤15:=by
 rw [List.getD_eq_getElem?_getD]
 cases h2:na[j]? with
 | none=>simp
 | some y=>exact h y (List.mem_of_getElem? h2)
theorem lB5 : ∀ r:Fin 29,qq.getD r.val 0≤5:=by decide +kernel
theorem kX (na:List Nat) (h15 : ∀ x∈na,x≤15) (S:Nat):(zq na S).length≤15:=by
 rw [zH]
 exact zdJ h15 S
theorem zhg {na nb:List Nat} (ha : ∀ x∈na,x≤15) (hb : ∀ x∈nb,x≤15) (t:Tok) (ht:zo t):(kr na nb t).length≤60:=by
 unfold kr
 split
 · have:=kX na ha t.byte; omega
 · rename_i h0
   simp only [List.length_append,ze]
   have h1:=kX na ha (xx t)
   have h2:=kX nb hb (xK t)
   have hq:(ya t.long.toNat 29 0).getD 0<29:=by
    have:=vY ⟨t.long.toNat,by unfold zo at ht; omega⟩ (show 3≤t.long.toNat by unfold zo at ht; omega)
    dsimp only at this
    cases e:ya t.long.toNat 29 0 with
    | none=>simp
    | some r=>rw [e] at this; simp at this; simpa using this
   have h3:qq.getD ((ya t.long.toNat 29 0).getD 0) 0≤5:=lB5 ⟨_,hq⟩
   have h4:dBt (xK t)≤14:=by
    unfold xK
    obtain ⟨r,e1,e2⟩:=qD t.back.toNat (by unfold zo at ht; omega) (by unfold zo at ht; omega)
    rw [e1]
    show dBt r≤14
    unfold dBt
    omega
   omega
def xA (na nb:List Nat) (l:List Tok):List Bool:=l.flatMap (kr na nb)
theorem zbH (na nb:List Nat) (l:List Tok) (t:Tok):xA na nb (l++[t])=xA na nb l++kr na nb t:=by unfold xA; rw [List.flatMap_append,List.flatMap_cons,List.flatMap_nil,List.append_nil]
theorem JG (na nb:List Nat) : ∀ l,xZ na nb l=xA na nb l++zq na 256
 | []=>rfl
 | t::l=>by
   show kr na nb t++xZ na nb l=_
   rw [JG na nb l]
   unfold xA
   rw [List.flatMap_cons,List.append_assoc]
theorem zaY {na nb:List Nat} (ha : ∀ x∈na,x≤15) (hb : ∀ x∈nb,x≤15) : ∀ (l:List Tok),(∀ t∈l,zo t)→(xA na nb l).length≤60*l.length
 | [],_=>by simp [xA]
 | t::l,h=>by
   have h1:=zaY ha hb l (fun u hu=>h u (List.mem_cons_of_mem _ hu))
   have h2:=zhg ha hb t (h t List.mem_cons_self)
   unfold xA at *
   rw [List.flatMap_cons,List.length_append,List.length_cons]
   omega
theorem zi5 : ∀ L:Fin 259,3≤L.val→L.val-lAt.getD ((ya L.val 29 0).getD 0) 0<4294967296∧qq.getD ((ya L.val 29 0).getD 0) 0≤5:=by decide +kernel
def zid (w:World) (b:Nat) (v:Value) (L:List Bool) (e:Ending) (w':World):Prop:=e = .returned (.tuple #[]) ∧ ∃ v',WS w b v w' v' L
set_option maxRecDepth 100000 in
set_option maxHeartbeats 12800000 in
theorem Qt (l:List Tok) (na nb:List Nat) (b:Nat) (v:Value) (L:List Bool) (a x y:Option Addr) (n cap nx cx ny cy:Nat) (w:World)
 (hI : ∀ w',Upd (zZ b v) w w'→TokIn w' a n l) (hX : ∀ w',Upd (zZ b v) w w'→IntsIn w' x nx (ints na)) (hY : ∀ w',Upd (zZ b v) w w'→IntsIn w' y ny (ints nb))
 (hW:WrAt w b v L (L.length/8)) (hL:L.length≤100000000000) (hn:n≤100000) (hka:zp (ints na)≠3) (hkb:zp (ints nb)≠3) (hc:Coded na nb l) (hok : ∀ t∈l,zo t) :
 Calls Tryz.prog 123 #[.pointer (some ⟨b,0,none⟩),.slice a n cap,.slice x nx cx,.slice y ny cy] w (zid w b v (L++xZ na nb l)):=by
 have Hx:=Lib.hid hX
 have Hy:=Lib.hid hY
 have HI:=Lib.hid hI
 have HLN:=Lib.hid (hI w (Upd.refl _ _)).len
 have HKna:=Lib.hid hka
 have HKnb:=Lib.hid hkb
 have HC:=Lib.hid hc
 have HOK:=Lib.hid hok
 have ha15 : ∀ x∈na,x≤15:=by have:=Jj (xC hka).1; rwa [jN] at this
 have hb15 : ∀ x∈nb,x≤15:=by have:=Jj (xC hkb).1; rwa [jN] at this
 have HTL:=Lib.hid (fun i=>zaY ha15 hb15 (l.take i) (fun t h=>hok t (List.mem_of_mem_take h)))
 have HA15:=Lib.hid ha15
 have HB15:=Lib.hid hb15
 have HW0:Hid (WS w b v w v (L++xA na nb (l.take 0))):=Lib.hid (by rw [List.take_zero]; show WS w b v w v (L++[]); rw [List.append_nil]; exact WS.refl hW)
 clear hI hX hY hka hkb hc hok ha15 hb15 hW
 go_enter Tryz.func123,Tryz.ntmps123
 go_wp2
 go_loopg [16] 200000 (fun gg s16 wr => ∃ i:Nat,i≤n∧gg=200000-i∧s16 = .int .i64 (i:Nat) ∧ ∃ v',Hid (WS w b v wr v' (L++xA na nb (l.take i))))
 case atStart=>exact ⟨0,by omega,by omega,rfl,v,HW0⟩
 case round =>
  clear HW0
  obtain ⟨i,hin,rfl,rfl,vi,HWi⟩:=hrel
  have htl:(xA na nb (l.take i)).length≤60*i:=Nat.le_trans (HTL.out i) (Nat.mul_le_mul_left _ (List.length_take_le _ _))
  have hLi:(L++xA na nb (l.take i)).length≤100006000000:=by rw [List.length_append]; omega
  by_cases hc:i<n
  · have hcz:(i:Int)<(n:Int):=by omega
    have hil:i<l.length:=by rw [HLN.out]; exact hc
    have hw1:IntKind.i64.wrap ((i:Int)+1)=((i+1:Nat):Int):=by rw [IntWalk.i64_in _ (by omega)]; rfl
    obtain ⟨bt,off,rfl,⟨hc1,hc2,hc3⟩,r1,r2,r3⟩:=(HI.out _ HWi.out.upd).cell i hil
    have HST:Hid (L++xA na nb (l.take (i+1))=(L++xA na nb (l.take i))++kr na nb l[i]):=Lib.hid (by rw [List.take_succ_eq_append_getElem hil,zbH,List.append_assoc])
    have hot:=HOK.out l[i] (List.getElem_mem hil)
    have hlc:=HC.out.lit l[i] (List.getElem_mem hil)
    have hbc:=HC.out.bak l[i] (List.getElem_mem hil)
    have HTD:Hid (kr na nb l[i]=if l[i].long=0 then zq na l[i].byte else zq na (xx l[i])++(low (qq.getD ((ya l[i].long.toNat 29 0).getD 0) 0) (l[i].long.toNat-lAt.getD ((ya l[i].long.toNat 29 0).getD 0) 0)++(zq nb (xK l[i])++low (dBt (xK l[i])) (l[i].back.toNat-dAt.getD (xK l[i]) 0)))):=Lib.hid rfl
    generalize xA na nb (l.take i)=TB at *
    generalize kr na nb l[i]=TI at *
    generalize l[i]=t at *
    obtain ⟨tb,tl,tk⟩:=t
    dsimp only at hc1 hc2 hc3 r1 r2 r3 HTD hbc
    obtain ⟨LL,hLL⟩ : ∃ LL,L++TB=LL:=⟨_,rfl⟩
    rw [hLL] at HWi hLi HST
    have hT4:=Blk.new wr [.int .u8 (tb:Nat),.int .i64 tl,.int .i64 tk] 130
    have hU4:Upd [] wr (wr.alloc (.cells #[.int .u8 (tb:Nat),.int .i64 tl,.int .i64 tk] 130)):=(Upd.refl [] wr).alloc _
    have HW4:=Lib.hid (HWi.out.pure hU4)
    have hwb:b<wr.heap.size:=HWi.out.at_.blk.lt
    have hwv : ∀ k,vi.ownBlock=some k→k<wr.heap.size:=HWi.out.at_.row.lt
    clear hil hLL HWi htl
    go_upto_region 3 with fail
    change Code.wp _ _ _ _ (wr.alloc (.cells #[.int .u8 (tb:Nat),.int .i64 tl,.int .i64 tk] 130))
    generalize wr.alloc (.cells #[.int .u8 (tb:Nat),.int .i64 tl,.int .i64 tk] 130)=w4 at *
    generalize wr.heap.size=g at *
    have hgn:g∉zZ b vi:=fun hm=>by
     rcases List.mem_cons.1 hm with h | h
     · omega
     · have:=hwv g (by simpa using h); omega
    have tA:=hT4.all
    have t2:=hT4.cell 2 rfl
    have HT4:=Lib.hid hT4
    have HGN:=Lib.hid hgn
    clear hT4 hU4 hc1 hc2 hc3 hwb hwv hgn
    by_cases h0:tl=0
    · have hb256:tb<256:=by unfold zo at hot; dsimp only at hot; omega
      have hlt:xx ⟨tb,tl,tk⟩=tb:=by unfold xx; rw [if_pos h0]
      rw [hlt] at hlc
      have HF:Hid (L++xA na nb (l.take (i+1))=LL++zq na tb):=Lib.hid (by rw [HST.out,HTD.out,if_pos h0])
      have HWc:=Lib.hid (vO b nx cx tb vi LL x na w4 (fun w' h=>Hx.out w' (HW4.out.fp h)) HW4.out.at_ (by omega) HKna.out hlc)
      subst h0
      clear hlc hbc hot hlt HT4 HTD HST
      go_wp2_with fail
      refine HWc.out.mono ?_
      rintro e w6 ⟨rfl,v6,h61,h62,h63⟩
      have HW6:=Lib.hid (HW4.out.step h61 h62 h63)
      clear h61 h62 h63 HWc
      go_wp2
      go_roundg (200000-(i+1))
      · exact ⟨i+1,by omega,by first | rfl | omega,by first | rfl | go_num,v6,Lib.hid (by rw [HF.out]; exact HW6.out)⟩
      · omega
    · have hot2:3≤tl∧tl≤258∧1≤tk∧tk≤32768:=by unfold zo at hot; dsimp only at hot; omega
      obtain ⟨LN,rfl⟩ : ∃ LN:Nat,tl=(LN:Int):=⟨tl.toNat,by omega⟩
      obtain ⟨K,rfl⟩ : ∃ K:Nat,tk=(K:Int):=⟨tk.toNat,by omega⟩
      have HSL:=Lib.hid (fun w'=>VC LN w' (by omega) (by omega))
      have HSB:=Lib.hid (fun w'=>YR K w' (by omega) (by omega))
      have hL29:=vY ⟨LN,by omega⟩ (by omega:3≤LN)
      have hMo:=zi5 ⟨LN,by omega⟩ (by omega:3≤LN)
      have hlt:xx ⟨tb,(LN:Int),(K:Int)⟩=257+(ya LN 29 0).getD 0:=by unfold xx; rw [if_neg h0,Int.toNat_natCast]
      have hkt:xK ⟨tb,(LN:Int),(K:Int)⟩=(qb K 30 0).getD 0:=by unfold xK; rw [Int.toNat_natCast]
      have hTE:=HTD.out
      rw [if_neg h0,hlt,hkt] at hTE
      simp only [Int.toNat_natCast] at hTE
      rw [hlt] at hlc
      rw [hkt] at hbc
      have hbc0:=hbc h0
      dsimp only at hL29 hMo
      have h0b:((LN:Int)==0)=false:=by simpa using h0
      have hK:1≤K∧K≤32768:=by omega
      have HLC:=Lib.hid hlc
      have HBC:=Lib.hid hbc0
      have HTE:=Lib.hid hTE
      have HMo:=Lib.hid hMo
      clear hot hot2 hlc hbc hbc0 hlt hkt HTD hTE hMo
      go_wp2_with fail
      refine (HSL.out _).mono ?_
      rintro e wa ⟨r,hr,rfl,hUa⟩
      rw [hr] at hL29
      have hr29:r<29:=hL29
      have hLC:=HLC.out
      have hTE:=HTE.out
      have hMo:=HMo.out
      rw [hr] at hLC hTE hMo
      simp only [Option.getD_some] at hLC hTE hMo
      have HTa:=Lib.hid (HT4.out.upd hUa (by simp))
      have HWa:=Lib.hid (HW4.out.pure hUa)
      have hsa:=hUa.size
      have hg4:=HT4.out.lt
      clear hr hL29 hUa HT4 HW4 tA t2 HSL HLC HTE HMo
      unfold KP
      obtain ⟨xb,hxb⟩ : ∃ xb,qq.getD r 0=xb:=⟨_,rfl⟩
      obtain ⟨xm,hxm⟩ : ∃ xm,LN-lAt.getD r 0=xm:=⟨_,rfl⟩
      obtain ⟨c,hcc⟩ : ∃ c,257+r=c:=⟨_,rfl⟩
      rw [hxb,hxm] at hTE hMo
      rw [hcc] at hTE hLC
      rw [hcc,hxb,hxm]
      have HLC:=Lib.hid hLC
      have HTE:=Lib.hid hTE
      have hxm32:xm<4294967296:=hMo.1
      have hxb5:xb≤5:=hMo.2
      clear hcc hxb hxm hLC hTE hMo
      have hTb:=HTa.out.alloc (.cells #[.int .i64 (c:Nat),.int .i64 (xb:Nat),.int .i64 (xm:Nat)] 207)
      have hQb:=Blk.new wa [.int .i64 (c:Nat),.int .i64 (xb:Nat),.int .i64 (xm:Nat)] 207
      have HWb:=Lib.hid (HWa.out.pure ((Upd.refl [] wa).alloc (.cells #[.int .i64 (c:Nat),.int .i64 (xb:Nat),.int .i64 (xm:Nat)] 207)))
      have hwb:b<wa.heap.size:=HWa.out.at_.blk.lt
      have hwv : ∀ k,vi.ownBlock=some k→k<wa.heap.size:=HWa.out.at_.row.lt
      clear HTa HWa
      go_upto_region 6 with fail
      change Code.wp _ _ _ _ (wa.alloc (.cells #[.int .i64 (c:Nat),.int .i64 (xb:Nat),.int .i64 (xm:Nat)] 207))
      generalize wa.alloc (.cells #[.int .i64 (c:Nat),.int .i64 (xb:Nat),.int .i64 (xm:Nat)] 207)=wb at *
      generalize wa.heap.size=s1 at *
      have hs1n:s1∉zZ b vi:=fun hm=>by
       rcases List.mem_cons.1 hm with h | h
       · omega
       · have:=hwv s1 (by simpa using h); omega
      have HS1:=Lib.hid hs1n
      have t2:=hTb.cell 2 rfl
      have HQb:=Lib.hid hQb
      clear hTb hQb hs1n hwb hwv
      go_wp2_with fail
      refine (HSB.out _).mono ?_
      rintro e wd ⟨z,hz,rfl,hUd⟩
      have hz30:z<30:=by
       obtain ⟨r,h1,h2⟩:=qD K hK.1 hK.2
       rw [hz] at h1
       cases h1
       exact h2
      have hBC:=HBC.out
      have hTE:=HTE.out
      rw [hz] at hBC hTE
      simp only [Option.getD_some] at hBC hTE
      have HWd:=Lib.hid (HWb.out.pure hUd)
      have HQd:=Lib.hid (HQb.out.upd hUd (by simp))
      have hsd:=hUd.size
      clear hz hUd HWb HQb t2 HSB HBC HTE
      unfold Xk
      obtain ⟨zb,hzb⟩ : ∃ zb,dBt z=zb:=⟨_,rfl⟩
      obtain ⟨zm,hzm⟩ : ∃ zm,K-dAt.getD z 0=zm:=⟨_,rfl⟩
      have hzb15:zb≤15:=by rw [← hzb]; unfold dBt; omega
      have hzm32:zm<4294967296:=by omega
      rw [hzb,hzm] at hTE ⊢
      have HTE:=Lib.hid hTE
      have HBC:=Lib.hid hBC
      clear hzb hzm hTE hBC
      have hRe:=Blk.new wd [.int .i64 (z:Nat),.int .i64 (zb:Nat),.int .i64 (zm:Nat)] 207
      have hQe:=HQd.out.alloc (.cells #[.int .i64 (z:Nat),.int .i64 (zb:Nat),.int .i64 (zm:Nat)] 207)
      have HWe:=Lib.hid (HWd.out.pure ((Upd.refl [] wd).alloc (.cells #[.int .i64 (z:Nat),.int .i64 (zb:Nat),.int .i64 (zm:Nat)] 207)))
      have hwb:b<wd.heap.size:=HWd.out.at_.blk.lt
      have hwv : ∀ k,vi.ownBlock=some k→k<wd.heap.size:=HWd.out.at_.row.lt
      clear HWd HQd
      go_upto_region 7 with fail
      change Code.wp _ _ _ _ (wd.alloc (.cells #[.int .i64 (z:Nat),.int .i64 (zb:Nat),.int .i64 (zm:Nat)] 207))
      generalize wd.alloc (.cells #[.int .i64 (z:Nat),.int .i64 (zb:Nat),.int .i64 (zm:Nat)] 207)=we at *
      generalize wd.heap.size=s2 at *
      have hs2n:s2∉zZ b vi:=fun hm=>by
       rcases List.mem_cons.1 hm with h | h
       · omega
       · have:=hwv s2 (by simpa using h); omega
      have HS2:=Lib.hid hs2n
      have HRe:=Lib.hid hRe
      have HQe:=Lib.hid hQe
      have q0:=hQe.cell 0 rfl
      have HWc:=Lib.hid (vO b nx cx c vi LL x na we (fun w' h=>Hx.out w' (HWe.out.fp h)) HWe.out.at_ (by omega) HKna.out HLC.out)
      clear hRe hQe hs2n hwb hwv
      go_wp2_with fail
      refine HWc.out.mono ?_
      rintro e w6 ⟨rfl,v6,h61,h62,h63⟩
      have HW6:=Lib.hid (HWe.out.step h61 h62 h63)
      have hQ6:=HQe.out.upd h62 HS1.out
      have HR6:=Lib.hid (HRe.out.upd h62 HS2.out)
      have HF6:=Lib.hid (h63.fp)
      have hqs:=HQe.out.lt
      have hrs:=HRe.out.lt
      have HS16:Hid (s1∉zZ b v6):=Lib.hid (fun hm=>by
       rcases List.mem_cons.1 hm with h | h
       · exact HS1.out (by rw [h]; exact List.mem_cons_self)
       · rcases HF6.out s1 h with h1 | h1
         · exact HS1.out (List.mem_cons_of_mem _ h1)
         · omega)
      have HS26:Hid (s2∉zZ b v6):=Lib.hid (fun hm=>by
       rcases List.mem_cons.1 hm with h | h
       · exact HS2.out (by rw [h]; exact List.mem_cons_self)
       · rcases HF6.out s2 h with h1 | h1
         · exact HS2.out (List.mem_cons_of_mem _ h1)
         · omega)
      clear h61 h62 h63 HWc HWe HQe HRe q0
      obtain ⟨L6,hL6⟩ : ∃ L6,LL++zq na c=L6:=⟨_,rfl⟩
      have hL6l:L6.length≤100006000015:=by rw [← hL6,List.length_append]; have:=kX na HA15.out c; omega
      rw [hL6] at HW6
      have HL6:=Lib.hid hL6
      have qA:=hQ6.all
      have hcv:IntKind.u32.wrap (xm:Int)=(xm:Int):=by simp [IntKind.wrap,IntKind.bits,IntKind.signed]; omega
      have HBX:=Lib.hid (yp b xm (xm:Int) (xb:Int) xb w6 v6 L6 rfl hxm32 HW6.out.at_ (by omega) (by omega) (Lib.hid (by omega)))
      clear hL6 hQ6
      go_wp2_with fail
      refine HBX.out.mono ?_
      rintro e w7 ⟨rfl,v7,h71,h72,h73⟩
      have HW7:=Lib.hid (HW6.out.step h71 h72 h73)
      have hR7:=HR6.out.upd h72 HS26.out
      have HF7:=Lib.hid (h73.fp)
      have hrs6:=HR6.out.lt
      have HS27:Hid (s2∉zZ b v7):=Lib.hid (fun hm=>by
       rcases List.mem_cons.1 hm with h | h
       · exact HS26.out (by rw [h]; exact List.mem_cons_self)
       · rcases HF7.out s2 h with h1 | h1
         · exact HS26.out (List.mem_cons_of_mem _ h1)
         · omega)
      obtain ⟨L7,hL7⟩ : ∃ L7,L6++low xb xm=L7:=⟨_,rfl⟩
      have hL7l:L7.length≤100006000030:=by rw [← hL7,List.length_append,ze]; omega
      rw [hL7] at HW7
      have HL7:=Lib.hid hL7
      have p0:=hR7.cell 0 rfl
      have HR7:=Lib.hid hR7
      have HWc:=Lib.hid (vO b ny cy z v7 L7 y nb w7 (fun w' h=>Hy.out w' (HW7.out.fp h)) HW7.out.at_ (by omega) HKnb.out HBC.out)
      clear h71 h72 h73 HBX HW6 HR6 qA hcv hL7 hR7
      go_wp2_with fail
      refine HWc.out.mono ?_
      rintro e w8 ⟨rfl,v8,h81,h82,h83⟩
      have HW8:=Lib.hid (HW7.out.step h81 h82 h83)
      have hR8:=HR7.out.upd h82 HS27.out
      obtain ⟨L8,hL8⟩ : ∃ L8,L7++zq nb z=L8:=⟨_,rfl⟩
      have hL8l:L8.length≤100006000045:=by rw [← hL8,List.length_append]; have:=kX nb HB15.out z; omega
      rw [hL8] at HW8
      have HL8:=Lib.hid hL8
      have pA:=hR8.all
      have hcz:IntKind.u32.wrap (zm:Int)=(zm:Int):=by simp [IntKind.wrap,IntKind.bits,IntKind.signed]; omega
      have HBX:=Lib.hid (yp b zm (zm:Int) (zb:Int) zb w8 v8 L8 rfl hzm32 HW8.out.at_ (by omega) (by omega) (Lib.hid (by omega)))
      clear h81 h82 h83 HWc HW7 HR7 p0 hL8 hR8
      go_wp2_with fail
      refine HBX.out.mono ?_
      rintro e w9 ⟨rfl,v9,h91,h92,h93⟩
      have HW9:=Lib.hid (HW8.out.step h91 h92 h93)
      have HF:Hid (L++xA na nb (l.take (i+1))=L8++low zb zm):=Lib.hid (by rw [HST.out,HTE.out,← HL8.out,← HL7.out,← HL6.out]; simp only [List.append_assoc])
      clear h91 h92 h93 HBX HW8 pA hcz
      go_wp2
      go_roundg (200000-(i+1))
      · exact ⟨i+1,by omega,by first | rfl | omega,by first | rfl | go_num,v9,Lib.hid (by rw [HF.out]; exact HW9.out)⟩
      · omega
  · have hcz : ¬ (i:Int)<(n:Int):=by omega
    obtain rfl:i=n:=by omega
    have htk:l.take i=l:=List.take_of_length_le (by rw [HLN.out]; exact Nat.le_refl _)
    rw [htk] at HWi hLi
    clear htk
    have HWc:=Lib.hid (vO b nx cx 256 vi (L++xA na nb l) x na wr (fun w' h=>Hx.out w' (HWi.out.fp h)) HWi.out.at_ (by omega) HKna.out HC.out.fin)
    go_wp2_with fail
    refine HWc.out.mono ?_
    rintro e w6 ⟨rfl,v6,h61,h62,h63⟩
    have HW6:=Lib.hid (HWi.out.step h61 h62 h63)
    clear h61 h62 h63 HWc
    go_wp2
    go_returns
    exact ⟨rfl,v6,by rw [JG,← List.append_assoc]; exact HW6.out⟩
end Go.Proofs.YtfkcdnaghndgfaaGreatDoor
