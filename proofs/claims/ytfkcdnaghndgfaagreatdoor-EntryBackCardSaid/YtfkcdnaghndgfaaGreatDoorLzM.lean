/- Package lz: Match: its walk. -/
import Derived.Test.YtfkcdnaghndgfaaGreatDoorQBT
set_option linter.unusedVariables false
set_option linter.unusedSimpArgs false
set_option linter.unusedSectionVars false
namespace Go.Proofs.YtfkcdnaghndgfaaGreatDoor
open Go.RowKit
attribute [local go_sem] Oper.semAt_some
theorem ziW : ∀ y:Nat,y≤9→0≤wrap64 (2*2^y)∧wrap64 (2*2^y)≤2000:=by decide +kernel
def Wi (S:ByteArray) (w:World) (e:Ending) (w':World):Prop := ∃ v l,e = .returned v∧Row w' 130 3 v l.length (tcs l)∧(∀ t∈l,zo t)∧zJ l []=some (zc S)∧l.length≤S.size∧(∀ k,v.ownBlock=some k→w.heap.size≤k)∧Upd [] w w'
def NxT (S:ByteArray) (i nb:Nat) (kn:Bool) (W:World):Prop := ∃ L B,(kn=true→zik S i L B)∧Blk W nb [.int .u8 0,.int .i64 L,.int .i64 B] 130
set_option maxRecDepth 100000 in
set_option maxHeartbeats 8000000 in
theorem WQ (S:ByteArray) (lv:Int) (w:World) (hs:S.size≤65000) (hlv : -9223372036854775808≤lv∧lv≤9223372036854775807) :
 Calls Tryz.prog 42 #[.string S,.int .i64 lv] w fun e w'=>Wi S w e w':=by
 have HPL:=Lib.hid (fun w=>Zz S w hs)
 have hsz : ¬ (65000:Int)<(S.size:Int):=by omega
 obtain ⟨y,hy⟩ : ∃ y:Nat,max 0 (min lv 9)=(y:Int):=⟨(max 0 (min lv 9)).toNat,by omega⟩
 have hy9:y≤9:=by omega
 have HY:=Lib.hid hy
 have hmm:=@run_makeMap Tryz.prog
 obtain ⟨i0,hi,jz0,jz1,jz2⟩:=info_parts zdb
 go_enter Tryz.func42,Tryz.ntmps42
 by_cases h0:y=0
 · have h0z:(y:Int)=0:=by omega
   go_wp2_with fail
   refine (HPL.out w).mono ?_
   rintro e w2 ⟨v,rfl,hR,hO,hU⟩
   have HR:=Lib.hid hR
   have HO:=Lib.hid hO
   have HU:=Lib.hid hU
   obtain ⟨va,vc,rfl⟩:=hR.form
   clear hR hO hU
   go_wp2
   go_ret
   have hpl:(yR (zc S)).length=(zc S).length:=List.length_map _
   exact ⟨_,yR (zc S),rfl,by rw [hpl]; exact HR.out,QL (fun b hb=>zT S b hb),by have:=JK (zc S) [] (by rw [zd]; simpa using hs); simpa using this,by rw [hpl,zd]; omega,HO.out,HU.out⟩
 · have h0z : ¬ (y:Int)=0:=by omega
   go_upto_region 5 with fail
   obtain ⟨D,hDe⟩ : ∃ D,wrap64 (2*2^y)=D:=⟨_,rfl⟩
   have hD:0≤D∧D≤2000:=by rw [← hDe]; exact ziW y hy9
   rw [hDe]
   clear hDe hmm
   have hM0:MapLt Tryz.prog 184 3 (((w.alloc (.map #[] 0)).alloc (.cells #[.string S,.map (some w.heap.size),.slice none 0 0,.int .i64 D] 128)).alloc (.cells #[.int .u8 0,.int .i64 0,.int .i64 0] 130)) w.heap.size 0 0:=((MapLt.new w 0).upd ((Upd.refl [] _).alloc _) (by simp)).upd ((Upd.refl [] _).alloc _) (by simp)
   have hF0:Blk (((w.alloc (.map #[] 0)).alloc (.cells #[.string S,.map (some w.heap.size),.slice none 0 0,.int .i64 D] 128)).alloc (.cells #[.int .u8 0,.int .i64 0,.int .i64 0] 130)) (w.heap.size+1) [.string S,.map (some w.heap.size),.slice none 0 0,.int .i64 D] 128:=by
    have h:=(Blk.new (w.alloc (.map #[] 0)) [.string S,.map (some w.heap.size),.slice none 0 0,.int .i64 D] 128).alloc (.cells #[.int .u8 0,.int .i64 0,.int .i64 0] 130)
    simpa using h
   have hN0:Blk (((w.alloc (.map #[] 0)).alloc (.cells #[.string S,.map (some w.heap.size),.slice none 0 0,.int .i64 D] 128)).alloc (.cells #[.int .u8 0,.int .i64 0,.int .i64 0] 130)) (w.heap.size+1+1) [.int .u8 0,.int .i64 0,.int .i64 0] 130:=by
    have h:=Blk.new ((w.alloc (.map #[] 0)).alloc (.cells #[.string S,.map (some w.heap.size),.slice none 0 0,.int .i64 D] 128)) [.int .u8 0,.int .i64 0,.int .i64 0] 130
    simpa using h
   have hU1:Upd [] w (((w.alloc (.map #[] 0)).alloc (.cells #[.string S,.map (some w.heap.size),.slice none 0 0,.int .i64 D] 128)).alloc (.cells #[.int .u8 0,.int .i64 0,.int .i64 0] 130)):=(((Upd.refl [] w).alloc _).alloc _).alloc _
   have hz1:(((w.alloc (.map #[] 0)).alloc (.cells #[.string S,.map (some w.heap.size),.slice none 0 0,.int .i64 D] 128)).alloc (.cells #[.int .u8 0,.int .i64 0,.int .i64 0] 130)).heap.size=w.heap.size+3:=by simp
   go_upto_region 6 with fail
   change Code.wp _ _ _ _ (((w.alloc (.map #[] 0)).alloc (.cells #[.string S,.map (some w.heap.size),.slice none 0 0,.int .i64 D] 128)).alloc (.cells #[.int .u8 0,.int .i64 0,.int .i64 0] 130))
   generalize ((w.alloc (.map #[] 0)).alloc (.cells #[.string S,.map (some w.heap.size),.slice none 0 0,.int .i64 D] 128)).alloc (.cells #[.int .u8 0,.int .i64 0,.int .i64 0] 130)=w1 at *
   obtain ⟨mb,hmb⟩ : ∃ mb,w.heap.size=mb:=⟨_,rfl⟩
   obtain ⟨fb,hfb⟩ : ∃ fb,w.heap.size+1=fb:=⟨_,rfl⟩
   obtain ⟨nb,hnb⟩ : ∃ nb,w.heap.size+1+1=nb:=⟨_,rfl⟩
   have hsimp:w.heap.size+2=nb:=hnb
   rw [hnb] at hN0
   rw [hfb,hmb] at hF0
   rw [hmb] at hM0
   (try rw [hnb]); (try rw [hsimp]); rw [hfb,hmb]
   have HBL:Hid ((fb<w1.heap.size∧mb<w1.heap.size∧nb<w1.heap.size∧nb≠fb∧nb≠mb)∧w.heap.size≤fb∧w.heap.size≤mb∧w.heap.size≤nb):=Lib.hid (by omega)
   have HMI:Hid (MatI S w1 fb mb nb D 0 0 (.slice none 0 0) (.slice none 0 0) 0 [] w1):=Lib.hid ⟨⟨⟨hF0,⟨[],rfl,by simp,Row.nil _ _ _⟩,by omega,by simp [Value.ownBlock],by simp [Value.ownBlock]⟩,0,Nat.le_refl _,hM0⟩,Row.nil _ _ _,rfl,by simp,rfl,Nat.le_refl _,by simp [Value.ownBlock],by simp [Value.ownBlock],HBL.out.1,Upd.refl _ _⟩
   have HNX:Hid (NxT S 0 nb false w1):=Lib.hid ⟨0,0,(fun h=>by cases h),hN0⟩
   have HU1:=Lib.hid hU1
   clear hM0 hF0 hN0 hU1 hz1 hmb hfb hnb hsimp
   go_wp2
   go_loopg [4,7,8] 70000 (fun gg s4 s7 s8 wr => ∃ (i:Nat) (kn:Bool) (v:Value) (n:Nat) (l:List Tok),i≤S.size∧gg=70000-i∧s8 = .int .i64 (i:Nat)∧s7 = .bool kn∧Hid (MatI S w1 fb mb nb D i i v s4 n l wr)∧Hid (NxT S i nb kn wr))
   case atStart=>exact ⟨0,false,_,0,[],by omega,by omega,rfl,rfl,HMI,HNX⟩
   case round =>
    obtain ⟨i,kn,v,n,l,hin,rfl,rfl,rfl,HM,HN⟩:=hrel
    clear HMI HNX
    obtain ⟨oa,oc,rfl⟩:=HM.out.row.form
    by_cases hc:i<S.size
    · have hcz:(i:Int)<(S.size:Int):=by omega
      obtain ⟨L,B,hLB,hNB⟩:=HN.out
      have HLB:=Lib.hid hLB
      have HNB:=Lib.hid hNB
      have nA:=hNB.all
      clear hLB hNB HN
      go_upto_region 10 with fail
      have hA2:Upd [] wr (wr.alloc (.cells #[.int .u8 0,.int .i64 L,.int .i64 B] 130)):=(Upd.refl [] wr).alloc _
      have HT2:=Lib.hid (Blk.new wr [.int .u8 0,.int .i64 L,.int .i64 B] 130)
      have HM2:=Lib.hid (HM.out.pure hA2)
      have HN2:=Lib.hid (HNB.out.upd hA2 (by simp))
      have HTBB:Hid (w1.heap.size≤wr.heap.size):=Lib.hid HM.out.size
      have HTO:Hid (∀ k,(Value.slice oa n oc).ownBlock=some k→k≠wr.heap.size):=Lib.hid (fun k hk=>by have:=HM.out.row.lt k hk; omega)
      clear hA2 HM HNB nA
      (try change Code.wp _ _ _ _ (wr.alloc (.cells #[.int .u8 0,.int .i64 L,.int .i64 B] 130)))
      generalize wr.alloc (.cells #[.int .u8 0,.int .i64 L,.int .i64 B] 130)=w2 at *
      generalize wr.heap.size=tb at *
      rcases kn with _ | _
      · have HBS:=Lib.hid (JV S fb mb i v i D w2 hs hin hD (by omega) HM2.out.fin)
        have kA:=HT2.out.all
        have k1:=HT2.out.cell 1 rfl
        go_wp2_with fail
        refine HBS.out.mono ?_
        rintro e w2b ⟨Lt,Bt,rfl,hbt,hU2⟩
        have HBT:=Lib.hid hbt
        have HM2b:=Lib.hid (HM2.out.pure hU2)
        have HN2b:=Lib.hid (HN2.out.upd hU2 (by simp))
        have HT2b:=Lib.hid (HT2.out.upd hU2 (by simp))
        clear hU2 HBS HM2 HN2 HT2 kA k1
        have kA:=HT2b.out.all
        have k1:=HT2b.out.cell 1 rfl
        have fA:=HT2b.out.frz
        go_upto_region 12 with fail
        have hB5:=((HT2b.out.set 0 (.int .u8 0)).set 1 (.int .i64 Lt)).set 2 (.int .i64 Bt)
        simp only [List.set_cons_zero,List.set_cons_succ] at hB5
        have hU6:Upd [tb] w2b (((w2b.setCell ⟨tb,0,none⟩ (.int .u8 0)).setCell ⟨tb,1,none⟩ (.int .i64 Lt)).setCell ⟨tb,2,none⟩ (.int .i64 Bt)):=(((Upd.refl [tb] w2b).setCell (.inl (by simp)) _).setCell (.inl (by simp)) _).setCell (.inl (by simp)) _
        have HM3:=Lib.hid (HM2b.out.tok hU6 HTBB.out (fun k hk=>HTO.out k hk) (by obtain ⟨xs,hv⟩:=HM2b.out.fin.row; exact hv.ne_cells HT2b.out (by decide)))
        have HT3:=Lib.hid hB5
        have HN3:=Lib.hid (HN2b.out.upd hU6 (by have:=HTBB.out; have:=HM2b.out.bl.2.2.1; simp; omega))
        clear hB5 hU6 HM2b HT2b HN2b kA k1 fA
        obtain ⟨w3,hw3⟩ : ∃ w3,((w2b.setCell ⟨tb,0,none⟩ (.int .u8 0)).setCell ⟨tb,1,none⟩ (.int .i64 Lt)).setCell ⟨tb,2,none⟩ (.int .i64 Bt)=w3:=⟨_,rfl⟩
        rw [hw3] at HM3 HN3 HT3
        (try rw [hw3])
        clear hw3
        go_wp2_with fail
        refine (jp S fb mb v i D _ hs hc HM3.out.fin).mono ?_
        rintro e wy hP
        obtain ⟨rfl,v4,hM4,hU4⟩:=HM3.out.put hP
        have HM4:=Lib.hid hM4
        have HTB4:=Lib.hid (HM3.out.far HT3.out hU4 (.inr HTBB.out))
        have HNB4:=Lib.hid (HM3.out.far HN3.out hU4 (.inl rfl))
        clear hP hM4 hU4 HM3 HT3 HN3
        have k1:=HTB4.out.cell 1 rfl
        have hbt:0≤Lt∧Lt≤258:=by
         rcases HBT.out with ⟨h1,_⟩ | ⟨h3,h1⟩
         · omega
         · have:=h1.bd; omega
        by_cases c1:0<Lt
        · have c1n : ¬ Lt=0:=by omega
          have c1b:(Lt==0)=false:=by simp; omega
          by_cases c2:4≤y
          · have c2z:(4:Int)≤(y:Int):=by omega
            have hw1:IntKind.i64.wrap ((i:Int)+1)=((i+1:Nat):Int):=by rw [IntWalk.i64_in _ (by omega)]; rfl
            by_cases c3:i+1<S.size
            · have c3z:((i+1:Nat):Int)<(S.size:Int):=by omega
              have HBS:=Lib.hid (JV S fb mb (i+1) v4 (i+1) D wy hs (by omega) hD (by omega) HM4.out.fin)
              obtain ⟨i1,hi1⟩ : ∃ i1,i+1=i1:=⟨_,rfl⟩
              have HI1:=Lib.hid hi1
              have hw2:IntKind.i64.wrap ((i:Int)+1)=(i1:Int):=by rw [hw1,hi1]
              have c3y:(i1:Int)<(S.size:Int):=by omega
              rw [hi1] at HBS
              clear hw1 hi1 c3z
              go_wp2_with fail
              refine HBS.out.mono ?_
              rintro e wy2 ⟨L2,B2,rfl,hb2,hU5⟩
              have HB2:=Lib.hid hb2
              have HM4b:=Lib.hid (HM4.out.pure hU5)
              have HTB4b:=Lib.hid (HTB4.out.upd hU5 (by simp))
              have HNB4b:=Lib.hid (HNB4.out.upd hU5 (by simp))
              have gA:=HNB4b.out.all
              have g1:=HNB4b.out.cell 1 rfl
              have eA:=HNB4b.out.frz
              have e1:=HNB4b.out.frz 1
              have e2:=HNB4b.out.frz 2
              clear hb2 hU5 HBS HM4 HTB4 HNB4 k1
              go_upto_region 16 with fail
              have hB5:=((HNB4b.out.set 0 (.int .u8 0)).set 1 (.int .i64 L2)).set 2 (.int .i64 B2)
              simp only [List.set_cons_zero,List.set_cons_succ] at hB5
              have hU6:Upd [nb] wy2 (((wy2.setCell ⟨nb,0,none⟩ (.int .u8 0)).setCell ⟨nb,1,none⟩ (.int .i64 L2)).setCell ⟨nb,2,none⟩ (.int .i64 B2)):=(((Upd.refl [nb] wy2).setCell (.inl (by simp)) _).setCell (.inl (by simp)) _).setCell (.inl (by simp)) _
              have HM4:=Lib.hid (HM4b.out.nxt hU6)
              have HNB4:=Lib.hid hB5
              have HTB4:=Lib.hid (HTB4b.out.upd hU6 (by have:=HTBB.out; have:=HM4b.out.bl.2.2.1; simp; omega))
              clear hB5 hU6 HM4b HTB4b HNB4b gA g1 eA e1 e2
              obtain ⟨wy,hwy⟩ : ∃ wy,((wy2.setCell ⟨nb,0,none⟩ (.int .u8 0)).setCell ⟨nb,1,none⟩ (.int .i64 L2)).setCell ⟨nb,2,none⟩ (.int .i64 B2)=wy:=⟨_,rfl⟩
              rw [hwy] at HM4 HNB4 HTB4
              (try rw [hwy])
              clear hwy
              have k1:=HTB4.out.cell 1 rfl
              have g1:=HNB4.out.cell 1 rfl
              by_cases c4:Lt<L2
              · have HB2K:=HB2
                rw [← HI1.out] at HB2K
                have hil:i<(zc S).length:=by rw [zd]; exact hc
                have HOKB:=Lib.hid (ZV (zT S _ (List.getElem_mem hil)))
                have HEXB:=Lib.hid (qO HM4.out.exp hil (by rw [zd]; exact hs))
                have HCS:Hid ((⟨(zc S)[i],0,0⟩:Tok).cs=[.int .u8 ((S[i]'hc).toNat:Nat),.int .i64 0,.int .i64 0]):=Lib.hid (by rw [yf S i hc hil]; rfl)
                have HAP:=Lib.hid (fun (w5 wa:World) (o5:Value) (hA:Upd [] wy wa) (hR5:Row w5 130 3 o5 (n+1) (tcs l++[.int .u8 ((S[i]'hc).toNat:Nat),.int .i64 0,.int .i64 0])) (hU5:Upd (Value.slice oa n oc).ownBlock.toList wa w5) (hT5:Later wa (Value.slice oa n oc) o5)=>HM4.out.app (t:=⟨(zc S)[i],0,0⟩) hA (by rw [HCS.out]; exact hR5) hU5 hT5 HOKB.out HEXB.out (Nat.lt_succ_self i))
                have hnb:=HM4.out.le
                have hRz:=HM4.out.row.alloc (.cells #[(.int .u8 ((S[i]'hc).toNat:Nat):Value),.int .i64 0,.int .i64 0] 130)
                have HNW:Hid (∀ j u,([(.int .u8 ((S[i]'hc).toNat:Nat):Value),.int .i64 0,.int .i64 0]:List Value)[j]? =some u→(wy.alloc (.cells #[(.int .u8 ((S[i]'hc).toNat:Nat):Value),.int .i64 0,.int .i64 0] 130)).cell? ((⟨wy.heap.size,0,none⟩:Addr).add j)=some u):=Lib.hid (World.news_of_block (cs := #[(.int .u8 ((S[i]'hc).toNat:Nat):Value),.int .i64 0,.int .i64 0]) (t:=130) (fr:=(0,0)) (heap_alloc_new _ _))
                have HST:Hid (∀ v∈([(.int .u8 ((S[i]'hc).toNat:Nat):Value),.int .i64 0,.int .i64 0]:List Value),v.oneCell'=true):=Lib.hid (by simp [Value.oneCell'])
                have hw1:IntKind.i64.wrap ((i:Int)+1)=((i+1:Nat):Int):=by rw [IntWalk.i64_in _ (by omega)]; rfl
                go_wp2_with (at_builtin; refine zz _ rfl _ _ 70 rfl 130 i0 _ 3 24 Tryz.underlying70 hi jz0 jz1 jz2 rfl (by omega) (.slice oa n oc) n _ rfl hRz ⟨wy.heap.size,0,none⟩ 1 1 [(.int .u8 ((S[i]'hc).toNat:Nat):Value),.int .i64 0,.int .i64 0] rfl rfl HNW.out HST.out (by unfold maxLen; omega) (by omega) ?_)
                intro o5 w5 hR5 hU5 hT5
                have hA:Upd [] wy (wy.alloc (.cells #[(.int .u8 ((S[i]'hc).toNat:Nat):Value),.int .i64 0,.int .i64 0] 130)):=(Upd.refl [] wy).alloc _
                have HM5:=Lib.hid (HAP.out w5 _ o5 hA hR5 hU5 hT5)
                have HN5:Hid (NxT S (i+1) nb true w5):=Lib.hid ⟨_,_,(fun _=>HB2K.out),(HNB4.out.upd hA (by simp)).upd hU5 (fun hm=>by have:=HM4.out.oo nb (by simpa using hm); have:=HM4.out.bl.2.2.1; omega)⟩
                clear hA hR5 hU5 hT5 hRz HNW HST HAP
                go_wp2
                go_roundg (70000-(i+1))
                · exact ⟨i+1,true,_,n+1,_,by omega,by omega,by first | rfl | go_num,rfl,HM5,HN5⟩
                · omega
              · have c4n : ¬ Lt<L2:=c4
                (try clear hw1)
                obtain ⟨m,b,rfl,rfl,hm1,hb1,hsame⟩ : ∃ m b:Nat,Lt=(m:Int)∧Bt=(b:Int)∧3≤m∧b≤32768∧SameB S i b m:=by
                 rcases HBT.out with ⟨h1,_⟩ | ⟨h3,h1 | ⟨m,b,e1,e2,e3,e4,e5⟩⟩
                 · omega
                 · omega
                 · exact ⟨m,b,e1,e2,by omega,e4,e5⟩
                have hmS:i+m≤S.size:=hsame.2.2.2.1
                have hm258:m≤258:=hsame.2.2.1
                have HSAME:=Lib.hid hsame
                clear hsame
                have HTB5:=Lib.hid HTB4.out
                (try clear hw2)
                have k1:=HTB4.out.cell 1 rfl
                have hw1:IntKind.i64.wrap ((i:Int)+1)=((i+1:Nat):Int):=by rw [IntWalk.i64_in _ (by omega)]; rfl
                have hwm:IntKind.i64.wrap ((i:Int)+(m:Int))=((i+m:Nat):Int):=by rw [IntWalk.i64_in _ (by omega)]; rfl
                go_wp2
                obtain ⟨E,hE⟩ : ∃ E,i+m=E:=⟨_,rfl⟩
                have HE:=Lib.hid hE
                have hwm2:IntKind.i64.wrap ((i:Int)+(m:Int))=(E:Int):=by rw [hwm,hE]
                have hEi:i+3≤E:=by omega
                have hES:E≤S.size:=by omega
                clear hwm hE hmS
                have hBASE:w1.heap.size≤wy.heap.size:=HM4.out.size
                go_loopg [10] 300 (fun gg s10 wr => ∃ (k:Nat) (v:Value),i+1≤k∧k≤E∧gg=301-(k-i)∧s10 = .int .i64 (k:Nat)∧Hid (MatI S w1 fb mb nb D k i v (.slice oa n oc) n l wr)∧Hid (Blk wr tb [.int .u8 0,.int .i64 (m:Nat),.int .i64 (b:Nat)] 130)∧Hid (Blk wr nb [.int .u8 0,.int .i64 L2,.int .i64 B2] 130))
                case atStart=>exact ⟨i+1,_,by omega,by omega,by omega,by first | rfl | go_num,HM4,HTB5,HNB4⟩
                case round =>
                 obtain ⟨k,v5,hk1,hk2,rfl,rfl,HM5,HT5,HN5⟩:=hrel
                 clear HM4 HTB4 HTB5 HNB4 k1
                 have k1:=HT5.out.cell 1 rfl
                 by_cases hkE:k<E
                 · have hkz:(k:Int)<(E:Int):=by omega
                   have hwk:IntKind.i64.wrap ((k:Int)+1)=((k+1:Nat):Int):=by rw [IntWalk.i64_in _ (by omega)]; rfl
                   go_wp2_with fail
                   refine (jp S fb mb v5 k D _ hs (by omega) HM5.out.fin).mono ?_
                   rintro e w6 hP
                   obtain ⟨rfl,v6,hM6,hU6⟩:=HM5.out.put hP
                   have HM6:=Lib.hid hM6
                   have HT6:=Lib.hid (HM5.out.far HT5.out hU6 (.inr HTBB.out))
                   have HN6:=Lib.hid (HM5.out.far HN5.out hU6 (.inl rfl))
                   clear hP hM6 hU6 HM5 HT5 HN5 k1
                   go_wp2
                   have hk58:k-i<260:=by have:=HE.out; omega
                   go_roundg (301-(k+1-i))
                   · exact ⟨k+1,v6,by omega,by omega,by first | rfl | omega,by first | rfl | go_num,HM6,HT6,HN6⟩
                   · omega
                 · obtain rfl:k=E:=by omega
                   have hkz : ¬ (k:Int)<(k:Int):=by omega
                   have kA:=HT5.out.all
                   obtain ⟨wz,hwz⟩ : ∃ wz,wz=wr:=⟨_,rfl⟩
                   subst hwz
                   have HOKC:=Lib.hid (ZT hb1 hm1 HSAME.out)
                   have HEXC:Hid (zJ (l++[⟨0,(m:Int),(b:Int)⟩]) []=some ((zc S).take k)):=Lib.hid (by have:=qK HM5.out.exp hs hb1 hm1 HSAME.out; rwa [HE.out] at this)
                   have HCS:Hid ((⟨0,(m:Int),(b:Int)⟩:Tok).cs=[.int .u8 0,.int .i64 (m:Nat),.int .i64 (b:Nat)]):=Lib.hid rfl
                   have hnb:=HM5.out.le
                   have HAP:=Lib.hid (fun (w5 wa:World) (o5:Value) (hA:Upd [] wz wa) (hR5:Row w5 130 3 o5 (n+1) (tcs l++[.int .u8 0,.int .i64 (m:Nat),.int .i64 (b:Nat)])) (hU5:Upd (Value.slice oa n oc).ownBlock.toList wa w5) (hT5:Later wa (Value.slice oa n oc) o5)=>HM5.out.app (t:=⟨0,(m:Int),(b:Int)⟩) hA (by rw [HCS.out]; exact hR5) hU5 hT5 HOKC.out HEXC.out (by omega))
                   have hRz:=HM5.out.row.alloc (.cells #[(.int .u8 0:Value),.int .i64 (m:Nat),.int .i64 (b:Nat)] 130)
                   have HNW:Hid (∀ j u,([(.int .u8 0:Value),.int .i64 (m:Nat),.int .i64 (b:Nat)]:List Value)[j]? =some u→(wz.alloc (.cells #[(.int .u8 0:Value),.int .i64 (m:Nat),.int .i64 (b:Nat)] 130)).cell? ((⟨wz.heap.size,0,none⟩:Addr).add j)=some u):=Lib.hid (World.news_of_block (cs := #[(.int .u8 0:Value),.int .i64 (m:Nat),.int .i64 (b:Nat)]) (t:=130) (fr:=(0,0)) (heap_alloc_new _ _))
                   have HST:Hid (∀ v∈([(.int .u8 0:Value),.int .i64 (m:Nat),.int .i64 (b:Nat)]:List Value),v.oneCell'=true):=Lib.hid (by simp [Value.oneCell'])
                   go_wp2_with (at_builtin; refine zz _ rfl _ _ 70 rfl 130 i0 _ 3 24 Tryz.underlying70 hi jz0 jz1 jz2 rfl (by omega) (.slice oa n oc) n _ rfl hRz ⟨wz.heap.size,0,none⟩ 1 1 [(.int .u8 0:Value),.int .i64 (m:Nat),.int .i64 (b:Nat)] rfl rfl HNW.out HST.out (by unfold maxLen; omega) (by omega) ?_)
                   intro o5 w5 hR5 hU5 hT5
                   have hA:Upd [] wz (wz.alloc (.cells #[(.int .u8 0:Value),.int .i64 (m:Nat),.int .i64 (b:Nat)] 130)):=(Upd.refl [] wz).alloc _
                   have HM6:=Lib.hid (HAP.out w5 _ o5 hA hR5 hU5 hT5)
                   have HN6:Hid (NxT S k nb false w5):=Lib.hid ⟨_,_,(fun h=>by cases h),(HN5.out.upd hA (by simp)).upd hU5 (fun hm=>by have:=HM5.out.oo nb (by simpa using hm); have:=HM5.out.bl.2.2.1; omega)⟩
                   have hT6:=(HT5.out.upd hA (by simp)).upd hU5 (fun hm=>HTO.out tb (by simpa using hm) rfl)
                   have k1:=hT6.cell 1 rfl
                   clear hA hR5 hU5 hT5 hRz HNW HST HAP kA HM5 HT5 HN5 hT6
                   go_wp2
                   go_roundg (70000-k)
                   · exact ⟨k,false,_,n+1,_,by omega,by omega,by first | rfl | go_num,rfl,HM6,HN6⟩
                   · omega
            · exfalso
              rcases HBT.out with ⟨h1,_⟩ | ⟨h3,h1 | ⟨m,b,e1,e2,e3,e4,e5⟩⟩
              · omega
              · omega
              · have:=e5.2.2.2.1; omega
          · have c2z : ¬ (4:Int)≤(y:Int):=by omega
            (try clear hw1)
            obtain ⟨m,b,rfl,rfl,hm1,hb1,hsame⟩ : ∃ m b:Nat,Lt=(m:Int)∧Bt=(b:Int)∧3≤m∧b≤32768∧SameB S i b m:=by
             rcases HBT.out with ⟨h1,_⟩ | ⟨h3,h1 | ⟨m,b,e1,e2,e3,e4,e5⟩⟩
             · omega
             · omega
             · exact ⟨m,b,e1,e2,by omega,e4,e5⟩
            have hmS:i+m≤S.size:=hsame.2.2.2.1
            have hm258:m≤258:=hsame.2.2.1
            have HSAME:=Lib.hid hsame
            clear hsame
            have HTB5:=Lib.hid HTB4.out
            (try clear hw2)
            have k1:=HTB4.out.cell 1 rfl
            have hw1:IntKind.i64.wrap ((i:Int)+1)=((i+1:Nat):Int):=by rw [IntWalk.i64_in _ (by omega)]; rfl
            have hwm:IntKind.i64.wrap ((i:Int)+(m:Int))=((i+m:Nat):Int):=by rw [IntWalk.i64_in _ (by omega)]; rfl
            go_wp2
            obtain ⟨E,hE⟩ : ∃ E,i+m=E:=⟨_,rfl⟩
            have HE:=Lib.hid hE
            have hwm2:IntKind.i64.wrap ((i:Int)+(m:Int))=(E:Int):=by rw [hwm,hE]
            have hEi:i+3≤E:=by omega
            have hES:E≤S.size:=by omega
            clear hwm hE hmS
            have hBASE:w1.heap.size≤wy.heap.size:=HM4.out.size
            go_loopg [10] 300 (fun gg s10 wr => ∃ (k:Nat) (v:Value),i+1≤k∧k≤E∧gg=301-(k-i)∧s10 = .int .i64 (k:Nat)∧Hid (MatI S w1 fb mb nb D k i v (.slice oa n oc) n l wr)∧Hid (Blk wr tb [.int .u8 0,.int .i64 (m:Nat),.int .i64 (b:Nat)] 130)∧Hid (Blk wr nb [.int .u8 0,.int .i64 L,.int .i64 B] 130))
            case atStart=>exact ⟨i+1,_,by omega,by omega,by omega,by first | rfl | go_num,HM4,HTB5,HNB4⟩
            case round =>
             obtain ⟨k,v5,hk1,hk2,rfl,rfl,HM5,HT5,HN5⟩:=hrel
             clear HM4 HTB4 HTB5 HNB4 k1
             have k1:=HT5.out.cell 1 rfl
             by_cases hkE:k<E
             · have hkz:(k:Int)<(E:Int):=by omega
               have hwk:IntKind.i64.wrap ((k:Int)+1)=((k+1:Nat):Int):=by rw [IntWalk.i64_in _ (by omega)]; rfl
               go_wp2_with fail
               refine (jp S fb mb v5 k D _ hs (by omega) HM5.out.fin).mono ?_
               rintro e w6 hP
               obtain ⟨rfl,v6,hM6,hU6⟩:=HM5.out.put hP
               have HM6:=Lib.hid hM6
               have HT6:=Lib.hid (HM5.out.far HT5.out hU6 (.inr HTBB.out))
               have HN6:=Lib.hid (HM5.out.far HN5.out hU6 (.inl rfl))
               clear hP hM6 hU6 HM5 HT5 HN5 k1
               go_wp2
               have hk58:k-i<260:=by have:=HE.out; omega
               go_roundg (301-(k+1-i))
               · exact ⟨k+1,v6,by omega,by omega,by first | rfl | omega,by first | rfl | go_num,HM6,HT6,HN6⟩
               · omega
             · obtain rfl:k=E:=by omega
               have hkz : ¬ (k:Int)<(k:Int):=by omega
               have kA:=HT5.out.all
               obtain ⟨wz,hwz⟩ : ∃ wz,wz=wr:=⟨_,rfl⟩
               subst hwz
               have HOKC:=Lib.hid (ZT hb1 hm1 HSAME.out)
               have HEXC:Hid (zJ (l++[⟨0,(m:Int),(b:Int)⟩]) []=some ((zc S).take k)):=Lib.hid (by have:=qK HM5.out.exp hs hb1 hm1 HSAME.out; rwa [HE.out] at this)
               have HCS:Hid ((⟨0,(m:Int),(b:Int)⟩:Tok).cs=[.int .u8 0,.int .i64 (m:Nat),.int .i64 (b:Nat)]):=Lib.hid rfl
               have hnb:=HM5.out.le
               have HAP:=Lib.hid (fun (w5 wa:World) (o5:Value) (hA:Upd [] wz wa) (hR5:Row w5 130 3 o5 (n+1) (tcs l++[.int .u8 0,.int .i64 (m:Nat),.int .i64 (b:Nat)])) (hU5:Upd (Value.slice oa n oc).ownBlock.toList wa w5) (hT5:Later wa (Value.slice oa n oc) o5)=>HM5.out.app (t:=⟨0,(m:Int),(b:Int)⟩) hA (by rw [HCS.out]; exact hR5) hU5 hT5 HOKC.out HEXC.out (by omega))
               have hRz:=HM5.out.row.alloc (.cells #[(.int .u8 0:Value),.int .i64 (m:Nat),.int .i64 (b:Nat)] 130)
               have HNW:Hid (∀ j u,([(.int .u8 0:Value),.int .i64 (m:Nat),.int .i64 (b:Nat)]:List Value)[j]? =some u→(wz.alloc (.cells #[(.int .u8 0:Value),.int .i64 (m:Nat),.int .i64 (b:Nat)] 130)).cell? ((⟨wz.heap.size,0,none⟩:Addr).add j)=some u):=Lib.hid (World.news_of_block (cs := #[(.int .u8 0:Value),.int .i64 (m:Nat),.int .i64 (b:Nat)]) (t:=130) (fr:=(0,0)) (heap_alloc_new _ _))
               have HST:Hid (∀ v∈([(.int .u8 0:Value),.int .i64 (m:Nat),.int .i64 (b:Nat)]:List Value),v.oneCell'=true):=Lib.hid (by simp [Value.oneCell'])
               go_wp2_with (at_builtin; refine zz _ rfl _ _ 70 rfl 130 i0 _ 3 24 Tryz.underlying70 hi jz0 jz1 jz2 rfl (by omega) (.slice oa n oc) n _ rfl hRz ⟨wz.heap.size,0,none⟩ 1 1 [(.int .u8 0:Value),.int .i64 (m:Nat),.int .i64 (b:Nat)] rfl rfl HNW.out HST.out (by unfold maxLen; omega) (by omega) ?_)
               intro o5 w5 hR5 hU5 hT5
               have hA:Upd [] wz (wz.alloc (.cells #[(.int .u8 0:Value),.int .i64 (m:Nat),.int .i64 (b:Nat)] 130)):=(Upd.refl [] wz).alloc _
               have HM6:=Lib.hid (HAP.out w5 _ o5 hA hR5 hU5 hT5)
               have HN6:Hid (NxT S k nb false w5):=Lib.hid ⟨_,_,(fun h=>by cases h),(HN5.out.upd hA (by simp)).upd hU5 (fun hm=>by have:=HM5.out.oo nb (by simpa using hm); have:=HM5.out.bl.2.2.1; omega)⟩
               have hT6:=(HT5.out.upd hA (by simp)).upd hU5 (fun hm=>HTO.out tb (by simpa using hm) rfl)
               have k1:=hT6.cell 1 rfl
               clear hA hR5 hU5 hT5 hRz HNW HST HAP kA HM5 HT5 HN5 hT6
               go_wp2
               go_roundg (70000-k)
               · exact ⟨k,false,_,n+1,_,by omega,by omega,by first | rfl | go_num,rfl,HM6,HN6⟩
               · omega
        · obtain rfl:Lt=0:=by omega
          have hil:i<(zc S).length:=by rw [zd]; exact hc
          have HOKB:=Lib.hid (ZV (zT S _ (List.getElem_mem hil)))
          have HEXB:=Lib.hid (qO HM4.out.exp hil (by rw [zd]; exact hs))
          have HCS:Hid ((⟨(zc S)[i],0,0⟩:Tok).cs=[.int .u8 ((S[i]'hc).toNat:Nat),.int .i64 0,.int .i64 0]):=Lib.hid (by rw [yf S i hc hil]; rfl)
          have HAP:=Lib.hid (fun (w5 wa:World) (o5:Value) (hA:Upd [] wy wa) (hR5:Row w5 130 3 o5 (n+1) (tcs l++[.int .u8 ((S[i]'hc).toNat:Nat),.int .i64 0,.int .i64 0])) (hU5:Upd (Value.slice oa n oc).ownBlock.toList wa w5) (hT5:Later wa (Value.slice oa n oc) o5)=>HM4.out.app (t:=⟨(zc S)[i],0,0⟩) hA (by rw [HCS.out]; exact hR5) hU5 hT5 HOKB.out HEXB.out (Nat.lt_succ_self i))
          have hnb:=HM4.out.le
          have hRz:=HM4.out.row.alloc (.cells #[(.int .u8 ((S[i]'hc).toNat:Nat):Value),.int .i64 0,.int .i64 0] 130)
          have HNW:Hid (∀ j u,([(.int .u8 ((S[i]'hc).toNat:Nat):Value),.int .i64 0,.int .i64 0]:List Value)[j]? =some u→(wy.alloc (.cells #[(.int .u8 ((S[i]'hc).toNat:Nat):Value),.int .i64 0,.int .i64 0] 130)).cell? ((⟨wy.heap.size,0,none⟩:Addr).add j)=some u):=Lib.hid (World.news_of_block (cs := #[(.int .u8 ((S[i]'hc).toNat:Nat):Value),.int .i64 0,.int .i64 0]) (t:=130) (fr:=(0,0)) (heap_alloc_new _ _))
          have HST:Hid (∀ v∈([(.int .u8 ((S[i]'hc).toNat:Nat):Value),.int .i64 0,.int .i64 0]:List Value),v.oneCell'=true):=Lib.hid (by simp [Value.oneCell'])
          have hw1:IntKind.i64.wrap ((i:Int)+1)=((i+1:Nat):Int):=by rw [IntWalk.i64_in _ (by omega)]; rfl
          go_wp2_with (at_builtin; refine zz _ rfl _ _ 70 rfl 130 i0 _ 3 24 Tryz.underlying70 hi jz0 jz1 jz2 rfl (by omega) (.slice oa n oc) n _ rfl hRz ⟨wy.heap.size,0,none⟩ 1 1 [(.int .u8 ((S[i]'hc).toNat:Nat):Value),.int .i64 0,.int .i64 0] rfl rfl HNW.out HST.out (by unfold maxLen; omega) (by omega) ?_)
          intro o5 w5 hR5 hU5 hT5
          have hA:Upd [] wy (wy.alloc (.cells #[(.int .u8 ((S[i]'hc).toNat:Nat):Value),.int .i64 0,.int .i64 0] 130)):=(Upd.refl [] wy).alloc _
          have HM5:=Lib.hid (HAP.out w5 _ o5 hA hR5 hU5 hT5)
          have HN5:Hid (NxT S (i+1) nb false w5):=Lib.hid ⟨_,_,(fun h=>by cases h),(HNB4.out.upd hA (by simp)).upd hU5 (fun hm=>by have:=HM4.out.oo nb (by simpa using hm); have:=HM4.out.bl.2.2.1; omega)⟩
          clear hA hR5 hU5 hT5 hRz HNW HST HAP
          go_wp2
          go_roundg (70000-(i+1))
          · exact ⟨i+1,false,_,n+1,_,by omega,by omega,by first | rfl | go_num,rfl,HM5,HN5⟩
          · omega
      · obtain ⟨Lt,hLt⟩ : ∃ Lt,L=Lt:=⟨_,rfl⟩
        obtain ⟨Bt,hBt⟩ : ∃ Bt,B=Bt:=⟨_,rfl⟩
        have HT3:=HT2
        rw [hLt,hBt] at HT3
        have HBT:=Lib.hid (HLB.out rfl)
        rw [hLt,hBt] at HBT
        have HM3:=HM2
        have HN3:=HN2
        clear HT2 HM2 HN2 hLt hBt
        go_upto_region 12 with fail
        go_wp2_with fail
        refine (jp S fb mb v i D _ hs hc HM3.out.fin).mono ?_
        rintro e wy hP
        obtain ⟨rfl,v4,hM4,hU4⟩:=HM3.out.put hP
        have HM4:=Lib.hid hM4
        have HTB4:=Lib.hid (HM3.out.far HT3.out hU4 (.inr HTBB.out))
        have HNB4:=Lib.hid (HM3.out.far HN3.out hU4 (.inl rfl))
        clear hP hM4 hU4 HM3 HT3 HN3
        have k1:=HTB4.out.cell 1 rfl
        have hbt:0≤Lt∧Lt≤258:=by
         rcases HBT.out with ⟨h1,_⟩ | ⟨h3,h1⟩
         · omega
         · have:=h1.bd; omega
        by_cases c1:0<Lt
        · have c1n : ¬ Lt=0:=by omega
          have c1b:(Lt==0)=false:=by simp; omega
          by_cases c2:4≤y
          · have c2z:(4:Int)≤(y:Int):=by omega
            have hw1:IntKind.i64.wrap ((i:Int)+1)=((i+1:Nat):Int):=by rw [IntWalk.i64_in _ (by omega)]; rfl
            by_cases c3:i+1<S.size
            · have c3z:((i+1:Nat):Int)<(S.size:Int):=by omega
              have HBS:=Lib.hid (JV S fb mb (i+1) v4 (i+1) D wy hs (by omega) hD (by omega) HM4.out.fin)
              obtain ⟨i1,hi1⟩ : ∃ i1,i+1=i1:=⟨_,rfl⟩
              have HI1:=Lib.hid hi1
              have hw2:IntKind.i64.wrap ((i:Int)+1)=(i1:Int):=by rw [hw1,hi1]
              have c3y:(i1:Int)<(S.size:Int):=by omega
              rw [hi1] at HBS
              clear hw1 hi1 c3z
              go_wp2_with fail
              refine HBS.out.mono ?_
              rintro e wy2 ⟨L2,B2,rfl,hb2,hU5⟩
              have HB2:=Lib.hid hb2
              have HM4b:=Lib.hid (HM4.out.pure hU5)
              have HTB4b:=Lib.hid (HTB4.out.upd hU5 (by simp))
              have HNB4b:=Lib.hid (HNB4.out.upd hU5 (by simp))
              have gA:=HNB4b.out.all
              have g1:=HNB4b.out.cell 1 rfl
              have eA:=HNB4b.out.frz
              have e1:=HNB4b.out.frz 1
              have e2:=HNB4b.out.frz 2
              clear hb2 hU5 HBS HM4 HTB4 HNB4 k1
              go_upto_region 16 with fail
              have hB5:=((HNB4b.out.set 0 (.int .u8 0)).set 1 (.int .i64 L2)).set 2 (.int .i64 B2)
              simp only [List.set_cons_zero,List.set_cons_succ] at hB5
              have hU6:Upd [nb] wy2 (((wy2.setCell ⟨nb,0,none⟩ (.int .u8 0)).setCell ⟨nb,1,none⟩ (.int .i64 L2)).setCell ⟨nb,2,none⟩ (.int .i64 B2)):=(((Upd.refl [nb] wy2).setCell (.inl (by simp)) _).setCell (.inl (by simp)) _).setCell (.inl (by simp)) _
              have HM4:=Lib.hid (HM4b.out.nxt hU6)
              have HNB4:=Lib.hid hB5
              have HTB4:=Lib.hid (HTB4b.out.upd hU6 (by have:=HTBB.out; have:=HM4b.out.bl.2.2.1; simp; omega))
              clear hB5 hU6 HM4b HTB4b HNB4b gA g1 eA e1 e2
              obtain ⟨wy,hwy⟩ : ∃ wy,((wy2.setCell ⟨nb,0,none⟩ (.int .u8 0)).setCell ⟨nb,1,none⟩ (.int .i64 L2)).setCell ⟨nb,2,none⟩ (.int .i64 B2)=wy:=⟨_,rfl⟩
              rw [hwy] at HM4 HNB4 HTB4
              (try rw [hwy])
              clear hwy
              have k1:=HTB4.out.cell 1 rfl
              have g1:=HNB4.out.cell 1 rfl
              by_cases c4:Lt<L2
              · have HB2K:=HB2
                rw [← HI1.out] at HB2K
                have hil:i<(zc S).length:=by rw [zd]; exact hc
                have HOKB:=Lib.hid (ZV (zT S _ (List.getElem_mem hil)))
                have HEXB:=Lib.hid (qO HM4.out.exp hil (by rw [zd]; exact hs))
                have HCS:Hid ((⟨(zc S)[i],0,0⟩:Tok).cs=[.int .u8 ((S[i]'hc).toNat:Nat),.int .i64 0,.int .i64 0]):=Lib.hid (by rw [yf S i hc hil]; rfl)
                have HAP:=Lib.hid (fun (w5 wa:World) (o5:Value) (hA:Upd [] wy wa) (hR5:Row w5 130 3 o5 (n+1) (tcs l++[.int .u8 ((S[i]'hc).toNat:Nat),.int .i64 0,.int .i64 0])) (hU5:Upd (Value.slice oa n oc).ownBlock.toList wa w5) (hT5:Later wa (Value.slice oa n oc) o5)=>HM4.out.app (t:=⟨(zc S)[i],0,0⟩) hA (by rw [HCS.out]; exact hR5) hU5 hT5 HOKB.out HEXB.out (Nat.lt_succ_self i))
                have hnb:=HM4.out.le
                have hRz:=HM4.out.row.alloc (.cells #[(.int .u8 ((S[i]'hc).toNat:Nat):Value),.int .i64 0,.int .i64 0] 130)
                have HNW:Hid (∀ j u,([(.int .u8 ((S[i]'hc).toNat:Nat):Value),.int .i64 0,.int .i64 0]:List Value)[j]? =some u→(wy.alloc (.cells #[(.int .u8 ((S[i]'hc).toNat:Nat):Value),.int .i64 0,.int .i64 0] 130)).cell? ((⟨wy.heap.size,0,none⟩:Addr).add j)=some u):=Lib.hid (World.news_of_block (cs := #[(.int .u8 ((S[i]'hc).toNat:Nat):Value),.int .i64 0,.int .i64 0]) (t:=130) (fr:=(0,0)) (heap_alloc_new _ _))
                have HST:Hid (∀ v∈([(.int .u8 ((S[i]'hc).toNat:Nat):Value),.int .i64 0,.int .i64 0]:List Value),v.oneCell'=true):=Lib.hid (by simp [Value.oneCell'])
                have hw1:IntKind.i64.wrap ((i:Int)+1)=((i+1:Nat):Int):=by rw [IntWalk.i64_in _ (by omega)]; rfl
                go_wp2_with (at_builtin; refine zz _ rfl _ _ 70 rfl 130 i0 _ 3 24 Tryz.underlying70 hi jz0 jz1 jz2 rfl (by omega) (.slice oa n oc) n _ rfl hRz ⟨wy.heap.size,0,none⟩ 1 1 [(.int .u8 ((S[i]'hc).toNat:Nat):Value),.int .i64 0,.int .i64 0] rfl rfl HNW.out HST.out (by unfold maxLen; omega) (by omega) ?_)
                intro o5 w5 hR5 hU5 hT5
                have hA:Upd [] wy (wy.alloc (.cells #[(.int .u8 ((S[i]'hc).toNat:Nat):Value),.int .i64 0,.int .i64 0] 130)):=(Upd.refl [] wy).alloc _
                have HM5:=Lib.hid (HAP.out w5 _ o5 hA hR5 hU5 hT5)
                have HN5:Hid (NxT S (i+1) nb true w5):=Lib.hid ⟨_,_,(fun _=>HB2K.out),(HNB4.out.upd hA (by simp)).upd hU5 (fun hm=>by have:=HM4.out.oo nb (by simpa using hm); have:=HM4.out.bl.2.2.1; omega)⟩
                clear hA hR5 hU5 hT5 hRz HNW HST HAP
                go_wp2
                go_roundg (70000-(i+1))
                · exact ⟨i+1,true,_,n+1,_,by omega,by omega,by first | rfl | go_num,rfl,HM5,HN5⟩
                · omega
              · have c4n : ¬ Lt<L2:=c4
                (try clear hw1)
                obtain ⟨m,b,rfl,rfl,hm1,hb1,hsame⟩ : ∃ m b:Nat,Lt=(m:Int)∧Bt=(b:Int)∧3≤m∧b≤32768∧SameB S i b m:=by
                 rcases HBT.out with ⟨h1,_⟩ | ⟨h3,h1 | ⟨m,b,e1,e2,e3,e4,e5⟩⟩
                 · omega
                 · omega
                 · exact ⟨m,b,e1,e2,by omega,e4,e5⟩
                have hmS:i+m≤S.size:=hsame.2.2.2.1
                have hm258:m≤258:=hsame.2.2.1
                have HSAME:=Lib.hid hsame
                clear hsame
                have HTB5:=Lib.hid HTB4.out
                (try clear hw2)
                have k1:=HTB4.out.cell 1 rfl
                have hw1:IntKind.i64.wrap ((i:Int)+1)=((i+1:Nat):Int):=by rw [IntWalk.i64_in _ (by omega)]; rfl
                have hwm:IntKind.i64.wrap ((i:Int)+(m:Int))=((i+m:Nat):Int):=by rw [IntWalk.i64_in _ (by omega)]; rfl
                go_wp2
                obtain ⟨E,hE⟩ : ∃ E,i+m=E:=⟨_,rfl⟩
                have HE:=Lib.hid hE
                have hwm2:IntKind.i64.wrap ((i:Int)+(m:Int))=(E:Int):=by rw [hwm,hE]
                have hEi:i+3≤E:=by omega
                have hES:E≤S.size:=by omega
                clear hwm hE hmS
                have hBASE:w1.heap.size≤wy.heap.size:=HM4.out.size
                go_loopg [10] 300 (fun gg s10 wr => ∃ (k:Nat) (v:Value),i+1≤k∧k≤E∧gg=301-(k-i)∧s10 = .int .i64 (k:Nat)∧Hid (MatI S w1 fb mb nb D k i v (.slice oa n oc) n l wr)∧Hid (Blk wr tb [.int .u8 0,.int .i64 (m:Nat),.int .i64 (b:Nat)] 130)∧Hid (Blk wr nb [.int .u8 0,.int .i64 L2,.int .i64 B2] 130))
                case atStart=>exact ⟨i+1,_,by omega,by omega,by omega,by first | rfl | go_num,HM4,HTB5,HNB4⟩
                case round =>
                 obtain ⟨k,v5,hk1,hk2,rfl,rfl,HM5,HT5,HN5⟩:=hrel
                 clear HM4 HTB4 HTB5 HNB4 k1
                 have k1:=HT5.out.cell 1 rfl
                 by_cases hkE:k<E
                 · have hkz:(k:Int)<(E:Int):=by omega
                   have hwk:IntKind.i64.wrap ((k:Int)+1)=((k+1:Nat):Int):=by rw [IntWalk.i64_in _ (by omega)]; rfl
                   go_wp2_with fail
                   refine (jp S fb mb v5 k D _ hs (by omega) HM5.out.fin).mono ?_
                   rintro e w6 hP
                   obtain ⟨rfl,v6,hM6,hU6⟩:=HM5.out.put hP
                   have HM6:=Lib.hid hM6
                   have HT6:=Lib.hid (HM5.out.far HT5.out hU6 (.inr HTBB.out))
                   have HN6:=Lib.hid (HM5.out.far HN5.out hU6 (.inl rfl))
                   clear hP hM6 hU6 HM5 HT5 HN5 k1
                   go_wp2
                   have hk58:k-i<260:=by have:=HE.out; omega
                   go_roundg (301-(k+1-i))
                   · exact ⟨k+1,v6,by omega,by omega,by first | rfl | omega,by first | rfl | go_num,HM6,HT6,HN6⟩
                   · omega
                 · obtain rfl:k=E:=by omega
                   have hkz : ¬ (k:Int)<(k:Int):=by omega
                   have kA:=HT5.out.all
                   obtain ⟨wz,hwz⟩ : ∃ wz,wz=wr:=⟨_,rfl⟩
                   subst hwz
                   have HOKC:=Lib.hid (ZT hb1 hm1 HSAME.out)
                   have HEXC:Hid (zJ (l++[⟨0,(m:Int),(b:Int)⟩]) []=some ((zc S).take k)):=Lib.hid (by have:=qK HM5.out.exp hs hb1 hm1 HSAME.out; rwa [HE.out] at this)
                   have HCS:Hid ((⟨0,(m:Int),(b:Int)⟩:Tok).cs=[.int .u8 0,.int .i64 (m:Nat),.int .i64 (b:Nat)]):=Lib.hid rfl
                   have hnb:=HM5.out.le
                   have HAP:=Lib.hid (fun (w5 wa:World) (o5:Value) (hA:Upd [] wz wa) (hR5:Row w5 130 3 o5 (n+1) (tcs l++[.int .u8 0,.int .i64 (m:Nat),.int .i64 (b:Nat)])) (hU5:Upd (Value.slice oa n oc).ownBlock.toList wa w5) (hT5:Later wa (Value.slice oa n oc) o5)=>HM5.out.app (t:=⟨0,(m:Int),(b:Int)⟩) hA (by rw [HCS.out]; exact hR5) hU5 hT5 HOKC.out HEXC.out (by omega))
                   have hRz:=HM5.out.row.alloc (.cells #[(.int .u8 0:Value),.int .i64 (m:Nat),.int .i64 (b:Nat)] 130)
                   have HNW:Hid (∀ j u,([(.int .u8 0:Value),.int .i64 (m:Nat),.int .i64 (b:Nat)]:List Value)[j]? =some u→(wz.alloc (.cells #[(.int .u8 0:Value),.int .i64 (m:Nat),.int .i64 (b:Nat)] 130)).cell? ((⟨wz.heap.size,0,none⟩:Addr).add j)=some u):=Lib.hid (World.news_of_block (cs := #[(.int .u8 0:Value),.int .i64 (m:Nat),.int .i64 (b:Nat)]) (t:=130) (fr:=(0,0)) (heap_alloc_new _ _))
                   have HST:Hid (∀ v∈([(.int .u8 0:Value),.int .i64 (m:Nat),.int .i64 (b:Nat)]:List Value),v.oneCell'=true):=Lib.hid (by simp [Value.oneCell'])
                   go_wp2_with (at_builtin; refine zz _ rfl _ _ 70 rfl 130 i0 _ 3 24 Tryz.underlying70 hi jz0 jz1 jz2 rfl (by omega) (.slice oa n oc) n _ rfl hRz ⟨wz.heap.size,0,none⟩ 1 1 [(.int .u8 0:Value),.int .i64 (m:Nat),.int .i64 (b:Nat)] rfl rfl HNW.out HST.out (by unfold maxLen; omega) (by omega) ?_)
                   intro o5 w5 hR5 hU5 hT5
                   have hA:Upd [] wz (wz.alloc (.cells #[(.int .u8 0:Value),.int .i64 (m:Nat),.int .i64 (b:Nat)] 130)):=(Upd.refl [] wz).alloc _
                   have HM6:=Lib.hid (HAP.out w5 _ o5 hA hR5 hU5 hT5)
                   have HN6:Hid (NxT S k nb false w5):=Lib.hid ⟨_,_,(fun h=>by cases h),(HN5.out.upd hA (by simp)).upd hU5 (fun hm=>by have:=HM5.out.oo nb (by simpa using hm); have:=HM5.out.bl.2.2.1; omega)⟩
                   have hT6:=(HT5.out.upd hA (by simp)).upd hU5 (fun hm=>HTO.out tb (by simpa using hm) rfl)
                   have k1:=hT6.cell 1 rfl
                   clear hA hR5 hU5 hT5 hRz HNW HST HAP kA HM5 HT5 HN5 hT6
                   go_wp2
                   go_roundg (70000-k)
                   · exact ⟨k,false,_,n+1,_,by omega,by omega,by first | rfl | go_num,rfl,HM6,HN6⟩
                   · omega
            · exfalso
              rcases HBT.out with ⟨h1,_⟩ | ⟨h3,h1 | ⟨m,b,e1,e2,e3,e4,e5⟩⟩
              · omega
              · omega
              · have:=e5.2.2.2.1; omega
          · have c2z : ¬ (4:Int)≤(y:Int):=by omega
            (try clear hw1)
            obtain ⟨m,b,rfl,rfl,hm1,hb1,hsame⟩ : ∃ m b:Nat,Lt=(m:Int)∧Bt=(b:Int)∧3≤m∧b≤32768∧SameB S i b m:=by
             rcases HBT.out with ⟨h1,_⟩ | ⟨h3,h1 | ⟨m,b,e1,e2,e3,e4,e5⟩⟩
             · omega
             · omega
             · exact ⟨m,b,e1,e2,by omega,e4,e5⟩
            have hmS:i+m≤S.size:=hsame.2.2.2.1
            have hm258:m≤258:=hsame.2.2.1
            have HSAME:=Lib.hid hsame
            clear hsame
            have HTB5:=Lib.hid HTB4.out
            (try clear hw2)
            have k1:=HTB4.out.cell 1 rfl
            have hw1:IntKind.i64.wrap ((i:Int)+1)=((i+1:Nat):Int):=by rw [IntWalk.i64_in _ (by omega)]; rfl
            have hwm:IntKind.i64.wrap ((i:Int)+(m:Int))=((i+m:Nat):Int):=by rw [IntWalk.i64_in _ (by omega)]; rfl
            go_wp2
            obtain ⟨E,hE⟩ : ∃ E,i+m=E:=⟨_,rfl⟩
            have HE:=Lib.hid hE
            have hwm2:IntKind.i64.wrap ((i:Int)+(m:Int))=(E:Int):=by rw [hwm,hE]
            have hEi:i+3≤E:=by omega
            have hES:E≤S.size:=by omega
            clear hwm hE hmS
            have hBASE:w1.heap.size≤wy.heap.size:=HM4.out.size
            go_loopg [10] 300 (fun gg s10 wr => ∃ (k:Nat) (v:Value),i+1≤k∧k≤E∧gg=301-(k-i)∧s10 = .int .i64 (k:Nat)∧Hid (MatI S w1 fb mb nb D k i v (.slice oa n oc) n l wr)∧Hid (Blk wr tb [.int .u8 0,.int .i64 (m:Nat),.int .i64 (b:Nat)] 130)∧Hid (Blk wr nb [.int .u8 0,.int .i64 L,.int .i64 B] 130))
            case atStart=>exact ⟨i+1,_,by omega,by omega,by omega,by first | rfl | go_num,HM4,HTB5,HNB4⟩
            case round =>
             obtain ⟨k,v5,hk1,hk2,rfl,rfl,HM5,HT5,HN5⟩:=hrel
             clear HM4 HTB4 HTB5 HNB4 k1
             have k1:=HT5.out.cell 1 rfl
             by_cases hkE:k<E
             · have hkz:(k:Int)<(E:Int):=by omega
               have hwk:IntKind.i64.wrap ((k:Int)+1)=((k+1:Nat):Int):=by rw [IntWalk.i64_in _ (by omega)]; rfl
               go_wp2_with fail
               refine (jp S fb mb v5 k D _ hs (by omega) HM5.out.fin).mono ?_
               rintro e w6 hP
               obtain ⟨rfl,v6,hM6,hU6⟩:=HM5.out.put hP
               have HM6:=Lib.hid hM6
               have HT6:=Lib.hid (HM5.out.far HT5.out hU6 (.inr HTBB.out))
               have HN6:=Lib.hid (HM5.out.far HN5.out hU6 (.inl rfl))
               clear hP hM6 hU6 HM5 HT5 HN5 k1
               go_wp2
               have hk58:k-i<260:=by have:=HE.out; omega
               go_roundg (301-(k+1-i))
               · exact ⟨k+1,v6,by omega,by omega,by first | rfl | omega,by first | rfl | go_num,HM6,HT6,HN6⟩
               · omega
             · obtain rfl:k=E:=by omega
               have hkz : ¬ (k:Int)<(k:Int):=by omega
               have kA:=HT5.out.all
               obtain ⟨wz,hwz⟩ : ∃ wz,wz=wr:=⟨_,rfl⟩
               subst hwz
               have HOKC:=Lib.hid (ZT hb1 hm1 HSAME.out)
               have HEXC:Hid (zJ (l++[⟨0,(m:Int),(b:Int)⟩]) []=some ((zc S).take k)):=Lib.hid (by have:=qK HM5.out.exp hs hb1 hm1 HSAME.out; rwa [HE.out] at this)
               have HCS:Hid ((⟨0,(m:Int),(b:Int)⟩:Tok).cs=[.int .u8 0,.int .i64 (m:Nat),.int .i64 (b:Nat)]):=Lib.hid rfl
               have hnb:=HM5.out.le
               have HAP:=Lib.hid (fun (w5 wa:World) (o5:Value) (hA:Upd [] wz wa) (hR5:Row w5 130 3 o5 (n+1) (tcs l++[.int .u8 0,.int .i64 (m:Nat),.int .i64 (b:Nat)])) (hU5:Upd (Value.slice oa n oc).ownBlock.toList wa w5) (hT5:Later wa (Value.slice oa n oc) o5)=>HM5.out.app (t:=⟨0,(m:Int),(b:Int)⟩) hA (by rw [HCS.out]; exact hR5) hU5 hT5 HOKC.out HEXC.out (by omega))
               have hRz:=HM5.out.row.alloc (.cells #[(.int .u8 0:Value),.int .i64 (m:Nat),.int .i64 (b:Nat)] 130)
               have HNW:Hid (∀ j u,([(.int .u8 0:Value),.int .i64 (m:Nat),.int .i64 (b:Nat)]:List Value)[j]? =some u→(wz.alloc (.cells #[(.int .u8 0:Value),.int .i64 (m:Nat),.int .i64 (b:Nat)] 130)).cell? ((⟨wz.heap.size,0,none⟩:Addr).add j)=some u):=Lib.hid (World.news_of_block (cs := #[(.int .u8 0:Value),.int .i64 (m:Nat),.int .i64 (b:Nat)]) (t:=130) (fr:=(0,0)) (heap_alloc_new _ _))
               have HST:Hid (∀ v∈([(.int .u8 0:Value),.int .i64 (m:Nat),.int .i64 (b:Nat)]:List Value),v.oneCell'=true):=Lib.hid (by simp [Value.oneCell'])
               go_wp2_with (at_builtin; refine zz _ rfl _ _ 70 rfl 130 i0 _ 3 24 Tryz.underlying70 hi jz0 jz1 jz2 rfl (by omega) (.slice oa n oc) n _ rfl hRz ⟨wz.heap.size,0,none⟩ 1 1 [(.int .u8 0:Value),.int .i64 (m:Nat),.int .i64 (b:Nat)] rfl rfl HNW.out HST.out (by unfold maxLen; omega) (by omega) ?_)
               intro o5 w5 hR5 hU5 hT5
               have hA:Upd [] wz (wz.alloc (.cells #[(.int .u8 0:Value),.int .i64 (m:Nat),.int .i64 (b:Nat)] 130)):=(Upd.refl [] wz).alloc _
               have HM6:=Lib.hid (HAP.out w5 _ o5 hA hR5 hU5 hT5)
               have HN6:Hid (NxT S k nb false w5):=Lib.hid ⟨_,_,(fun h=>by cases h),(HN5.out.upd hA (by simp)).upd hU5 (fun hm=>by have:=HM5.out.oo nb (by simpa using hm); have:=HM5.out.bl.2.2.1; omega)⟩
               have hT6:=(HT5.out.upd hA (by simp)).upd hU5 (fun hm=>HTO.out tb (by simpa using hm) rfl)
               have k1:=hT6.cell 1 rfl
               clear hA hR5 hU5 hT5 hRz HNW HST HAP kA HM5 HT5 HN5 hT6
               go_wp2
               go_roundg (70000-k)
               · exact ⟨k,false,_,n+1,_,by omega,by omega,by first | rfl | go_num,rfl,HM6,HN6⟩
               · omega
        · obtain rfl:Lt=0:=by omega
          have hil:i<(zc S).length:=by rw [zd]; exact hc
          have HOKB:=Lib.hid (ZV (zT S _ (List.getElem_mem hil)))
          have HEXB:=Lib.hid (qO HM4.out.exp hil (by rw [zd]; exact hs))
          have HCS:Hid ((⟨(zc S)[i],0,0⟩:Tok).cs=[.int .u8 ((S[i]'hc).toNat:Nat),.int .i64 0,.int .i64 0]):=Lib.hid (by rw [yf S i hc hil]; rfl)
          have HAP:=Lib.hid (fun (w5 wa:World) (o5:Value) (hA:Upd [] wy wa) (hR5:Row w5 130 3 o5 (n+1) (tcs l++[.int .u8 ((S[i]'hc).toNat:Nat),.int .i64 0,.int .i64 0])) (hU5:Upd (Value.slice oa n oc).ownBlock.toList wa w5) (hT5:Later wa (Value.slice oa n oc) o5)=>HM4.out.app (t:=⟨(zc S)[i],0,0⟩) hA (by rw [HCS.out]; exact hR5) hU5 hT5 HOKB.out HEXB.out (Nat.lt_succ_self i))
          have hnb:=HM4.out.le
          have hRz:=HM4.out.row.alloc (.cells #[(.int .u8 ((S[i]'hc).toNat:Nat):Value),.int .i64 0,.int .i64 0] 130)
          have HNW:Hid (∀ j u,([(.int .u8 ((S[i]'hc).toNat:Nat):Value),.int .i64 0,.int .i64 0]:List Value)[j]? =some u→(wy.alloc (.cells #[(.int .u8 ((S[i]'hc).toNat:Nat):Value),.int .i64 0,.int .i64 0] 130)).cell? ((⟨wy.heap.size,0,none⟩:Addr).add j)=some u):=Lib.hid (World.news_of_block (cs := #[(.int .u8 ((S[i]'hc).toNat:Nat):Value),.int .i64 0,.int .i64 0]) (t:=130) (fr:=(0,0)) (heap_alloc_new _ _))
          have HST:Hid (∀ v∈([(.int .u8 ((S[i]'hc).toNat:Nat):Value),.int .i64 0,.int .i64 0]:List Value),v.oneCell'=true):=Lib.hid (by simp [Value.oneCell'])
          have hw1:IntKind.i64.wrap ((i:Int)+1)=((i+1:Nat):Int):=by rw [IntWalk.i64_in _ (by omega)]; rfl
          go_wp2_with (at_builtin; refine zz _ rfl _ _ 70 rfl 130 i0 _ 3 24 Tryz.underlying70 hi jz0 jz1 jz2 rfl (by omega) (.slice oa n oc) n _ rfl hRz ⟨wy.heap.size,0,none⟩ 1 1 [(.int .u8 ((S[i]'hc).toNat:Nat):Value),.int .i64 0,.int .i64 0] rfl rfl HNW.out HST.out (by unfold maxLen; omega) (by omega) ?_)
          intro o5 w5 hR5 hU5 hT5
          have hA:Upd [] wy (wy.alloc (.cells #[(.int .u8 ((S[i]'hc).toNat:Nat):Value),.int .i64 0,.int .i64 0] 130)):=(Upd.refl [] wy).alloc _
          have HM5:=Lib.hid (HAP.out w5 _ o5 hA hR5 hU5 hT5)
          have HN5:Hid (NxT S (i+1) nb false w5):=Lib.hid ⟨_,_,(fun h=>by cases h),(HNB4.out.upd hA (by simp)).upd hU5 (fun hm=>by have:=HM4.out.oo nb (by simpa using hm); have:=HM4.out.bl.2.2.1; omega)⟩
          clear hA hR5 hU5 hT5 hRz HNW HST HAP
          go_wp2
          go_roundg (70000-(i+1))
          · exact ⟨i+1,false,_,n+1,_,by omega,by omega,by first | rfl | go_num,rfl,HM5,HN5⟩
          · omega
    · obtain rfl:i=S.size:=by omega
      have hcz : ¬ (S.size:Int)<(S.size:Int):=by omega
      have HE:Hid (Wi S w (.returned (.slice oa n oc)) wr):=Lib.hid ⟨_,l,rfl,by rw [HM.out.len]; exact HM.out.row,HM.out.ok,by have:=HM.out.exp; rwa [List.take_of_length_le (by rw [zd]; omega)] at this,by rw [HM.out.len]; exact HM.out.le,fun k hk=>by have:=HM.out.oo k hk; have:=HU1.out.size; omega,HU1.out.trans HM.out.up (fun k hk => .inr (by have:=HBL.out; simp at hk; omega))⟩
      go_wp2
      go_ret
      exact HE.out
end Go.Proofs.YtfkcdnaghndgfaaGreatDoor
