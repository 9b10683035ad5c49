/- A map whose values lie below a bound: its look-up, its store. -/
import Derived.WideKeyPair
import Derived.DeepKeys4
import Derived.Test.YtfkcdnaghndgfaaGreatDoorQAY
import Derived.Test.YtfkcdnaghndgfaaGreatDoorQBE
import Derived.Test.YtfkcdnaghndgfaaGreatDoorQAB
import Derived.Test.YtfkcdnaghndgfaaGreatDoorQAA
import Derived.Deep.QuietTactic
import Derived.BigQuiet
set_option linter.unusedVariables false
set_option linter.unusedSimpArgs false
set_option linter.unusedSectionVars false
namespace Go.Proofs.YtfkcdnaghndgfaaGreatDoor
open Go.RowKit Go.Maps Go.WideMaps
theorem zih (w:World):(zeroValue 3).run Tryz.prog w = .ok (.int .i64 0) w:=by kernel_rfl
theorem zbQ:laidOutB Tryz.prog=true:=by kernel_rfl
theorem zel:ArrKey Tryz.prog 184 5 3:=⟨Tryz.underlying184,by kernel_rfl,by kernel_rfl,by kernel_rfl⟩
theorem jR:Keyed Tryz.prog 184:=Keyed.of_law (deep_law_laid zbQ (m:=2) (by omega) (of_decide_eq_true (by kernel_rfl)) (by kernel_rfl) (by kernel_rfl))
theorem zaR {P:Program} {k e:TypeId} {q:IntKind} (A:ArrKey P k e 3) (he:P.underlying e=some (.int q)) (hsz : ∃ m,P.types.size=m+1) {a b c:Int} (wa:(Lit.int q a).wf=true) (wb:(Lit.int q b).wf=true) (wc:(Lit.int q c).wf=true) :
 keyOf P k (.agg #[.int q a,.int q b,.int q c])=some (.string (keyBytes [.int q a,.int q b,.int q c])):=by
 have hkt:=A.keyType hsz
 obtain ⟨m,hm⟩:=hsz
 unfold keyOf
 simp only [A.hu]
 rw [if_pos (by simp [hkt,Value.formed,A.hu,A.size]),hm]
 unfold Program.keyLits
 simp only [A.hu,Value.cells]
 rw [if_pos (by rw [A.size]; rfl),show List.range 3=[0,1,2] from rfl,List.mapM_cons,List.mapM_cons,List.mapM_cons,List.mapM_nil]
 simp [A.one,Program.keyLits,he,wa,wb,wc]
theorem zac (S:ByteArray) (i:Nat) (h:i+3≤S.size) : ∃ kl,keyOf Tryz.prog 184 (zch S i h)=some kl :=
 ⟨_,zaR zel Tryz.underlying5 ⟨Tryz.prog.types.size-1,by kernel_rfl⟩ (by have:=S[i].toNat_lt; simp [Lit.wf,IntKind.min,IntKind.max,IntKind.signed,IntKind.bits]; omega) (by have:=S[i+1].toNat_lt; simp [Lit.wf,IntKind.min,IntKind.max,IntKind.signed,IntKind.bits]; omega) (by have:=S[i+2].toNat_lt; simp [Lit.wf,IntKind.min,IntKind.max,IntKind.signed,IntKind.bits]; omega)⟩
variable {P:Program} {k e t:TypeId}
def MapLt (P:Program) (k e:TypeId) (w:World) (b n m:Nat):Prop :=
 ∃ D:DataW Unit,w.ownsMap P k (plainElem P e) b n D ∧ ∀ kl z,D.atKey kl z=z ∨ ∃ p:Nat,p<m∧D.atKey kl z = .lit (.int .i64 (p:Nat))
theorem MapLt.new (w:World) (m:Nat):MapLt P k e (w.alloc (.map #[] 0)) w.heap.size 0 m :=
 ⟨.map [],World.ownsMap_made _ _ _ _,fun kl z => .inl rfl⟩
theorem MapLt.upd {w w':World} {b n m:Nat} {fp:List Nat} (h:MapLt P k e w b n m) (hu:Upd fp w w') (hn:b∉fp):MapLt P k e w' b n m:=by
 obtain ⟨D,h1,h2⟩:=h
 exact ⟨D,Zu h1 hu hn,h2⟩
theorem MapLt.mono {w:World} {b n m m':Nat} (h:MapLt P k e w b n m) (hm:m≤m'):MapLt P k e w b n m':=by
 obtain ⟨D,h1,h2⟩:=h
 exact ⟨D,h1,fun kl z=>(h2 kl z).imp_right fun ⟨p,hp,e⟩=>⟨p,by omega,e⟩⟩
theorem MapLt.lt {w:World} {b n m:Nat} (h:MapLt P k e w b n m):b<w.heap.size:=by obtain ⟨D,h1,_⟩:=h; exact h1.lt
theorem MapLt.look {w:World} {b n m:Nat} (h:MapLt P k e w b n m) (K:Keyed P k) (ht:P.underlying t=some (.map k e)) (he:P.underlying e=some (.int .i64)) (hz:(zeroValue e).run P w = .ok (.int .i64 0) w) {key:Value} {kl:Lit} (hkey:keyOf P k key=some kl) :
 (Instr.lookup t (.map (some b)) key true).run P w = .ok (.tuple #[.int .i64 0,.bool false]) w ∨ ∃ p:Nat,p<m∧(Instr.lookup t (.map (some b)) key true).run P w = .ok (.tuple #[.int .i64 (p:Nat),.bool true]) w:=by
 obtain ⟨D,⟨es,clock,hb,F,_,rfl⟩,h2⟩:=h
 rcases Maps.fit_look true K ht hz hb F hkey with ⟨hrun,_,_⟩ | ⟨e0,y,_,_,hrun,hR,hat,_⟩
 · exact .inl (by rw [hrun]; rfl)
 · right
   obtain ⟨a,hv,hy,_⟩:=plainElem_int_inv he hR
   rcases h2 kl .nil with e1 | ⟨p,hp,e1⟩
   · rw [hat,hy] at e1
     cases e1
   · rw [hat,hy] at e1
     simp only [DataW.lit.injEq,Lit.int.injEq,true_and] at e1
     exact ⟨p,hp,by rw [hrun,hv,e1]; rfl⟩
theorem MapLt.store {w:World} {b n m:Nat} (h:MapLt P k e w b n m) (K:Keyed P k) (ht:P.underlying t=some (.map k e)) (he:P.underlying e=some (.int .i64)) {key:Value} {kl:Lit} (hkey:keyOf P k key=some kl) (hn:n<maxLen) (v:Nat) (hvm:v<m) (hv:v≤9223372036854775807) :
 ∃ w',(Instr.mapUpdate t (.map (some b)) key (.int .i64 (v:Nat))).run P w = .ok () w'∧MapLt P k e w' b (n+1) m∧Upd [b] w w':=by
 obtain ⟨D,h1,h2⟩:=h
 have hw:(Lit.int .i64 (v:Nat)).wf=true:=by simp [Lit.wf,IntKind.min,IntKind.max,IntKind.signed,IntKind.bits]; omega
 obtain ⟨w',hr,h3,h4⟩:=h1.update K ht hn hkey (plainElem_int he hw)
 refine ⟨w',hr,⟨_,h3,fun kl' z=>?_⟩,(Upd.refl _ w).grown h4 (fun j hj => .inl (by simp at hj; simp [hj]))⟩
 by_cases hp:kl'=kl
 · subst hp
   exact .inr ⟨v,hvm,by rw [atKey_put_same (h1.tidy K).isMap (K.key hkey)]⟩
 · rw [atKey_put_other hp]
   exact h2 kl' z
end Go.Proofs.YtfkcdnaghndgfaaGreatDoor
namespace Go.Proofs.YtfkcdnaghndgfaaGreatDoor
open Go.RowKit
attribute [local go_sem] Oper.semAt_some
def zvs (l:List Int):List Value:=l.map fun x => .int .i64 x
theorem zfH (l:List Int) (x:Int):zvs (l++[x])=zvs l++[.int .i64 x]:=by simp [zvs]
def FinR (w:World) (fb mb:Nat) (S:ByteArray) (v:Value) (m:Nat) (D:Int):Prop :=
 Blk w fb [.string S,.map (some mb),v,.int .i64 D] 128 ∧
 (∃ xs:List Int,xs.length=m∧(∀ x∈xs,-1≤x∧x<m)∧Row w 3 1 v m (zvs xs))∧fb≠mb∧v.ownBlock≠some fb∧v.ownBlock≠some mb
def JW (w:World) (mb n m:Nat):Prop:=MapLt Tryz.prog 184 3 w mb n m
def FinAt (w:World) (fb mb:Nat) (S:ByteArray) (v:Value) (m:Nat) (D:Int):Prop:=FinR w fb mb S v m D ∧ ∃ n,n≤m∧JW w mb n m
theorem FinR.upd {w w':World} {fb mb:Nat} {S:ByteArray} {v:Value} {m:Nat} {D:Int} {fp:List Nat} (h:FinR w fb mb S v m D) (hu:Upd fp w w') (h1:fb∉fp) (h3 : ∀ k,v.ownBlock=some k→k∉fp):FinR w' fb mb S v m D:=by
 obtain ⟨a,⟨xs,c1,c2,c3⟩,d⟩:=h
 exact ⟨a.upd hu h1,⟨xs,c1,c2,c3.upd hu h3⟩,d⟩
theorem FinAt.upd {w w':World} {fb mb:Nat} {S:ByteArray} {v:Value} {m:Nat} {D:Int} {fp:List Nat} (h:FinAt w fb mb S v m D) (hu:Upd fp w w') (h1:fb∉fp) (h2:mb∉fp) (h3 : ∀ k,v.ownBlock=some k→k∉fp):FinAt w' fb mb S v m D:=by
 obtain ⟨a,n,hn,b⟩:=h
 exact ⟨a.upd hu h1 h3,n,hn,b.upd hu h2⟩
theorem FinAt.pure {w w':World} {fb mb:Nat} {S:ByteArray} {v:Value} {m:Nat} {D:Int} (h:FinAt w fb mb S v m D) (hu:Upd [] w w'):FinAt w' fb mb S v m D:=h.upd hu (by simp) (by simp) (by simp)
theorem VZ {w wa w5:World} {fb mb m n:Nat} {S:ByteArray} {v v5:Value} {D x:Int} {xs:List Int} (hB:Blk w fb [.string S,.map (some mb),v,.int .i64 D] 128) (hM:JW w mb n m) (hxl:xs.length=m) (hxb : ∀ x∈xs,-1≤x∧x<m)
 (ho:fb≠mb∧v.ownBlock≠some fb∧v.ownBlock≠some mb) (hA:Upd [] w wa) (hx : -1≤x∧x<m) (hR5:Row w5 3 1 v5 (m+1) (zvs xs++[.int .i64 x])) (hU5:Upd v.ownBlock.toList wa w5) (hT5:Later wa v v5) :
 FinR (w5.setCell ⟨fb,2,none⟩ v5) fb mb S v5 (m+1) D∧JW (w5.setCell ⟨fb,2,none⟩ v5) mb n m∧Upd (fb::mb::v.ownBlock.toList) w (w5.setCell ⟨fb,2,none⟩ v5)∧Later w v v5∧w.heap.size≤w5.heap.size:=by
 obtain ⟨o1,o2,o3⟩:=ho
 have hfl:=hB.lt
 have hml:mb<w.heap.size:=hM.lt
 have hws:=hA.size
 have h5:Upd v.ownBlock.toList w w5:=(hA.mono (fun k hk=>by simp at hk)).then hU5
 have nf:v5.ownBlock≠some fb:=by
  rcases hT5 with e | ⟨g,e,hg⟩
  · rw [e]; exact o2
  · rw [e]; intro hh; cases hh; omega
 have nm:v5.ownBlock≠some mb:=by
  rcases hT5 with e | ⟨g,e,hg⟩
  · rw [e]; exact o3
  · rw [e]; intro hh; cases hh; omega
 refine ⟨⟨?_,⟨xs++[x],by simp [hxl],fun y hy=>?_,?_⟩,o1,nf,nm⟩,?_,?_,?_,h5.size⟩
 · exact (hB.upd h5 (by simpa using o2)).set 2 v5
 · rcases List.mem_append.1 hy with h | h
   · have:=hxb y h; omega
   · simp at h; subst h; omega
 · rw [zfH]
   exact hR5.setFar v5 nf
 · exact (hM.upd h5 (by simpa using o3)).upd ((Upd.refl [fb] w5).setCell (p:=⟨fb,2,none⟩) (.inl (by simp)) v5) (by simpa using o1.symm)
 · exact (h5.mono (fun k hk => .inl (by simp [hk]))).setCell (.inl (by simp)) v5
 · rcases hT5 with e | ⟨g,e,hg⟩
   · exact .inl e
   · exact .inr ⟨g,e,by omega⟩
def zgs (w:World) (fb mb:Nat) (S:ByteArray) (v:Value) (m:Nat) (D:Int) (e:Ending) (w':World):Prop :=
 e = .returned (.tuple #[]) ∧ ∃ v',FinAt w' fb mb S v' (m+1) D∧Upd (fb::mb::v.ownBlock.toList) w w'∧Later w v v'
set_option maxRecDepth 100000 in
set_option maxHeartbeats 6400000 in
theorem jp (S:ByteArray) (fb mb:Nat) (v:Value) (m:Nat) (D:Int) (w:World) (hs:S.size≤65000) (hm:m<S.size) (hF:FinAt w fb mb S v m D) :
 Calls Tryz.prog 81 #[.pointer (some ⟨fb,0,none⟩),.int .i64 (m:Nat)] w fun e w'=>zgs w fb mb S v m D e w':=by
 obtain ⟨i0,hi,jz0,jz1,jz2⟩:=info_parts qJ
 obtain ⟨⟨hB,⟨xs,hxl,hxb,hR⟩,hne,ho1,ho2⟩,nm,hnm,hM⟩:=hF
 obtain ⟨va,vc,rfl⟩:=hR.form
 have HB:=Lib.hid hB
 have HM:=Lib.hid hM
 have HR:=Lib.hid hR
 have HX:=Lib.hid hxb
 have HXL:=Lib.hid hxl
 have HO:=Lib.hid (And.intro hne (And.intro ho1 ho2))
 have hfw:=hB.lt
 have cA:=hB.all
 have c2:=hB.cell 2 rfl
 have f2:=hB.frz 2
 have hmw:IntKind.i64.wrap ((m:Int)+3)=(m:Int)+3:=by rw [IntWalk.i64_in _ (by omega)]
 clear hB hM hR hxb hxl hne ho1 ho2
 go_enter Tryz.func81,Tryz.ntmps81
 by_cases h3:S.size<m+3
 · have h3z:(S.size:Int)<(m:Int)+3:=by omega
   have hRz:=HR.out.alloc (.cells #[(.int .i64 (-1):Value)] 3)
   have HNW:Hid (∀ j u,([(.int .i64 (-1):Value)]:List Value)[j]? =some u→(w.alloc (.cells #[(.int .i64 (-1):Value)] 3)).cell? ((⟨w.heap.size,0,none⟩:Addr).add j)=some u):=Lib.hid (World.news_of_block (cs := #[(.int .i64 (-1):Value)]) (t:=3) (fr:=(0,0)) (heap_alloc_new _ _))
   have HST:Hid (∀ v∈([(.int .i64 (-1):Value)]:List Value),v.oneCell'=true):=Lib.hid (by simp [Value.oneCell'])
   go_wp2_with (at_builtin; refine zz _ rfl _ _ 98 rfl 3 i0 _ 1 8 Tryz.underlying98 hi jz0 jz1 jz2 rfl (by omega) (.slice va m vc) m _ rfl hRz ⟨w.heap.size,0,none⟩ 1 1 [(.int .i64 (-1):Value)] rfl rfl HNW.out HST.out (by unfold maxLen; omega) (by omega) ?_)
   intro v5 w5 hR5 hU5 hT5
   obtain ⟨v5a,v5c,rfl⟩:=hR5.form
   obtain ⟨p1,p2,p3,p4,p5⟩:=VZ (x := -1) HB.out HM.out HXL.out HX.out HO.out ((Upd.refl [] w).alloc (.cells #[(.int .i64 (-1):Value)] 3)) (by omega) hR5 hU5 hT5
   have HP:=Lib.hid (show zgs w fb mb S (.slice va m vc) m D (.returned (.tuple #[])) (w5.setCell ⟨fb,2,none⟩ (.slice v5a (m+1) v5c)) from ⟨rfl,_,⟨p1,nm,by omega,p2.mono (by omega)⟩,p3,p4⟩)
   have hB5:=HB.out.upd ((Upd.refl [] w).alloc (.cells #[(.int .i64 (-1):Value)] 3)) (by simp)
   have hB6:=hB5.upd hU5 (by simpa using HO.out.2.1)
   have k2:=hB6.cell 2 rfl
   have g2:=hB6.frz 2
   clear p1 p2 p3 p4 p5 hR5 hU5 hT5 hRz HNW HST hB5 hB6 c2 f2
   go_wp2
   go_returns
   exact HP.out
 · have h3z : ¬ (S.size:Int)<(m:Int)+3:=by omega
   have h3m:m+3≤S.size:=by omega
   have HKY:=Lib.hid (YN S m fb _ _ _ w hs h3m HB.out)
   obtain ⟨kl,hkl⟩:=zac S m h3m
   obtain ⟨X,Y,Z,hkv⟩ : ∃ X Y Z:Int,zch S m h3m = .agg #[.int .u8 X,.int .u8 Y,.int .u8 Z]:=⟨_,_,_,rfl⟩
   rw [hkv] at HKY hkl
   have HKL:=Lib.hid hkl
   have HFW:Hid (fb<w.heap.size∧mb<w.heap.size ∧ ∀ k,(Value.slice va m vc).ownBlock=some k→k<w.heap.size):=Lib.hid ⟨hfw,HM.out.lt,HR.out.lt⟩
   clear hkl hkv c2 f2
   go_wp2_with fail
   refine HKY.out.mono ?_
   rintro e w2 ⟨rfl,hU2⟩
   have HB2:=Lib.hid (HB.out.upd hU2 (by simp))
   have HM2:=Lib.hid (show JW w2 mb nm m from HM.out.upd hU2 (by simp))
   have HR2:=Lib.hid (HR.out.upd hU2 (by simp))
   have HU2:=Lib.hid hU2
   clear hU2 HKY HB HM HR cA
   go_upto_region 3 with fail
   have HK3:=Lib.hid (Blk.new w2 [.int .u8 X,.int .u8 Y,.int .u8 Z] 184)
   have hA3:Upd [] w2 (w2.alloc (.cells #[.int .u8 X,.int .u8 Y,.int .u8 Z] 184)):=(Upd.refl [] w2).alloc _
   have HB3:=Lib.hid (HB2.out.upd hA3 (by simp))
   have HM3:=Lib.hid (show JW _ mb nm m from HM2.out.upd hA3 (by simp))
   have HR3:=Lib.hid (HR2.out.upd hA3 (by simp))
   have HU3:=Lib.hid (HU2.out.then hA3)
   have hkw:w.heap.size≤w2.heap.size:=HU2.out.size
   clear hA3 HB2 HM2 HR2 HU2
   change Code.wp _ _ _ _ (w2.alloc (.cells #[.int .u8 X,.int .u8 Y,.int .u8 Z] 184))
   generalize w2.alloc (.cells #[.int .u8 X,.int .u8 Y,.int .u8 Z] 184)=w3 at *
   generalize w2.heap.size=kb at *
   have cA:=HB3.out.all
   have c1:=HB3.out.cell 1 rfl
   have kA:=HK3.out.all
   have k2:=HK3.out.cell 2 rfl
   rcases (show JW w3.drew mb nm m from HM3.out.upd ((Upd.refl [] w3).drew) (by simp)).look jR Tryz.underlying126 Tryz.underlying3 (zih _) HKL.out with hlk | ⟨p,hpm,hlk⟩
   · go_wp2_with fail
     go_region
     have HB4:=Lib.hid (Blk.drew HB3.out)
     have HM4:=Lib.hid (show JW w3.drew mb nm m from HM3.out.upd ((Upd.refl [] w3).drew) (by simp))
     have HR4:=Lib.hid (Row.drew HR3.out)
     have HK4:=Lib.hid (Blk.drew HK3.out)
     have HU4:=Lib.hid (HU3.out.drew)
     generalize w3.drew=w4 at *
     have c2:=HB4.out.cell 2 rfl
     have f2:=HB4.out.frz 2
     clear HB3 HM3 HR3 HK3 HU3 cA c1 kA k2
     have hRz:=HR4.out.alloc (.cells #[(.int .i64 (-1):Value)] 3)
     have HNW:Hid (∀ j u,([(.int .i64 (-1):Value)]:List Value)[j]? =some u→(w4.alloc (.cells #[(.int .i64 (-1):Value)] 3)).cell? ((⟨w4.heap.size,0,none⟩:Addr).add j)=some u):=Lib.hid (World.news_of_block (cs := #[(.int .i64 (-1):Value)]) (t:=3) (fr:=(0,0)) (heap_alloc_new _ _))
     have HST:Hid (∀ v∈([(.int .i64 (-1):Value)]:List Value),v.oneCell'=true):=Lib.hid (by simp [Value.oneCell'])
     go_wp2_with (at_builtin; refine zz _ rfl _ _ 98 rfl 3 i0 _ 1 8 Tryz.underlying98 hi jz0 jz1 jz2 rfl (by omega) (.slice va m vc) m _ rfl hRz ⟨w4.heap.size,0,none⟩ 1 1 [(.int .i64 (-1):Value)] rfl rfl HNW.out HST.out (by unfold maxLen; omega) (by omega) ?_)
     intro v5 w5 hR5 hU5 hT5
     obtain ⟨v5a,v5c,rfl⟩:=hR5.form
     have hA4:Upd [] w4 (w4.alloc (.cells #[(.int .i64 (-1):Value)] 3)):=(Upd.refl [] w4).alloc _
     obtain ⟨p1,p2,p3,p4,p5⟩:=VZ (x:=(-1)) HB4.out HM4.out HXL.out HX.out HO.out hA4 (by omega) hR5 hU5 hT5
     have hkn:kb≠fb∧kb≠mb:=by
      have e1:=HFW.out.1
      have e2:=HFW.out.2.1
      exact ⟨by omega,by omega⟩
     have hkv:kb∉(Value.slice va m vc).ownBlock.toList:=fun h=>by
      have e:=HFW.out.2.2 kb (by simpa using h)
      omega
     have hB6:=(HB4.out.upd hA4 (by simp)).upd hU5 (by simpa using HO.out.2.1)
     have hK6:=(HK4.out.upd hA4 (by simp)).upd hU5 hkv
     have hK7:=hK6.setFar (a:=⟨fb,2,none⟩) (.slice v5a (m+1) v5c) hkn.1
     have q2:=hB6.cell 2 rfl
     have g2:=hB6.frz 2
     have HP1:=Lib.hid p1
     have HP2:=Lib.hid p2
     have HP3:=Lib.hid p3
     have HP4:=Lib.hid p4
     have HK7:=Lib.hid hK7
     clear p1 p2 p3 p4 p5 hR5 hU5 hT5 hRz HNW HST hB6 hK6 hA4 c2 f2 hkv hK7 hkn
     go_upto_region 7 with fail
     generalize w5.setCell ⟨fb,2,none⟩ (.slice v5a (m+1) v5c)=w6 at *
     have c1:=HP1.out.1.cell 1 rfl
     have kA:=HK7.out.all
     have k2:=HK7.out.cell 2 rfl
     obtain ⟨w7,hrun,hM7,hU7⟩:=((show JW w6.drew mb nm m from HP2.out.upd ((Upd.refl [] w6).drew) (by simp)).mono (Nat.le_succ m)).store jR Tryz.underlying126 Tryz.underlying3 HKL.out (by unfold maxLen; omega) m (by omega) (by omega)
     have HP7:=Lib.hid (show zgs w fb mb S (.slice va m vc) m D (.returned (.tuple #[])) w7 from ⟨rfl,_,⟨(HP1.out.upd ((Upd.refl [] w6).drew) (by simp) (by simp)).upd hU7 (by simpa using HO.out.1) (fun k hk hm=>by simp at hm; subst hm; exact HP1.out.2.2.2.2 hk),nm+1,by omega,hM7⟩,((HU4.out.mono (fun k hk=>by simp at hk)).trans HP3.out (fun k hk => .inl hk)).drew.trans hU7 (fun k hk => .inl (by simp at hk; simp [hk])),HP4.out.imp id (fun ⟨g,e,hg⟩=>⟨g,e,Nat.le_trans HU4.out.size hg⟩)⟩)
     clear hM7 hU7
     go_region
     go_returns
     exact HP7.out
   · have hpi:(0:Int)≤(p:Int)∧(p:Int)<(m:Int):=by omega
     go_wp2_with fail
     go_region
     have HB4:=Lib.hid (Blk.drew HB3.out)
     have HM4:=Lib.hid (show JW w3.drew mb nm m from HM3.out.upd ((Upd.refl [] w3).drew) (by simp))
     have HR4:=Lib.hid (Row.drew HR3.out)
     have HK4:=Lib.hid (Blk.drew HK3.out)
     have HU4:=Lib.hid (HU3.out.drew)
     generalize w3.drew=w4 at *
     have c2:=HB4.out.cell 2 rfl
     have f2:=HB4.out.frz 2
     clear HB3 HM3 HR3 HK3 HU3 cA c1 kA k2
     have hRz:=HR4.out.alloc (.cells #[(.int .i64 (p:Nat):Value)] 3)
     have HNW:Hid (∀ j u,([(.int .i64 (p:Nat):Value)]:List Value)[j]? =some u→(w4.alloc (.cells #[(.int .i64 (p:Nat):Value)] 3)).cell? ((⟨w4.heap.size,0,none⟩:Addr).add j)=some u):=Lib.hid (World.news_of_block (cs := #[(.int .i64 (p:Nat):Value)]) (t:=3) (fr:=(0,0)) (heap_alloc_new _ _))
     have HST:Hid (∀ v∈([(.int .i64 (p:Nat):Value)]:List Value),v.oneCell'=true):=Lib.hid (by simp [Value.oneCell'])
     go_wp2_with (at_builtin; refine zz _ rfl _ _ 98 rfl 3 i0 _ 1 8 Tryz.underlying98 hi jz0 jz1 jz2 rfl (by omega) (.slice va m vc) m _ rfl hRz ⟨w4.heap.size,0,none⟩ 1 1 [(.int .i64 (p:Nat):Value)] rfl rfl HNW.out HST.out (by unfold maxLen; omega) (by omega) ?_)
     intro v5 w5 hR5 hU5 hT5
     obtain ⟨v5a,v5c,rfl⟩:=hR5.form
     have hA4:Upd [] w4 (w4.alloc (.cells #[(.int .i64 (p:Nat):Value)] 3)):=(Upd.refl [] w4).alloc _
     obtain ⟨p1,p2,p3,p4,p5⟩:=VZ (x:=(p:Nat)) HB4.out HM4.out HXL.out HX.out HO.out hA4 (by omega) hR5 hU5 hT5
     have hkn:kb≠fb∧kb≠mb:=by
      have e1:=HFW.out.1
      have e2:=HFW.out.2.1
      exact ⟨by omega,by omega⟩
     have hkv:kb∉(Value.slice va m vc).ownBlock.toList:=fun h=>by
      have e:=HFW.out.2.2 kb (by simpa using h)
      omega
     have hB6:=(HB4.out.upd hA4 (by simp)).upd hU5 (by simpa using HO.out.2.1)
     have hK6:=(HK4.out.upd hA4 (by simp)).upd hU5 hkv
     have hK7:=hK6.setFar (a:=⟨fb,2,none⟩) (.slice v5a (m+1) v5c) hkn.1
     have q2:=hB6.cell 2 rfl
     have g2:=hB6.frz 2
     have HP1:=Lib.hid p1
     have HP2:=Lib.hid p2
     have HP3:=Lib.hid p3
     have HP4:=Lib.hid p4
     have HK7:=Lib.hid hK7
     clear p1 p2 p3 p4 p5 hR5 hU5 hT5 hRz HNW HST hB6 hK6 hA4 c2 f2 hkv hK7 hkn
     go_upto_region 7 with fail
     generalize w5.setCell ⟨fb,2,none⟩ (.slice v5a (m+1) v5c)=w6 at *
     have c1:=HP1.out.1.cell 1 rfl
     have kA:=HK7.out.all
     have k2:=HK7.out.cell 2 rfl
     obtain ⟨w7,hrun,hM7,hU7⟩:=((show JW w6.drew mb nm m from HP2.out.upd ((Upd.refl [] w6).drew) (by simp)).mono (Nat.le_succ m)).store jR Tryz.underlying126 Tryz.underlying3 HKL.out (by unfold maxLen; omega) m (by omega) (by omega)
     have HP7:=Lib.hid (show zgs w fb mb S (.slice va m vc) m D (.returned (.tuple #[])) w7 from ⟨rfl,_,⟨(HP1.out.upd ((Upd.refl [] w6).drew) (by simp) (by simp)).upd hU7 (by simpa using HO.out.1) (fun k hk hm=>by simp at hm; subst hm; exact HP1.out.2.2.2.2 hk),nm+1,by omega,hM7⟩,((HU4.out.mono (fun k hk=>by simp at hk)).trans HP3.out (fun k hk => .inl hk)).drew.trans hU7 (fun k hk => .inl (by simp at hk; simp [hk])),HP4.out.imp id (fun ⟨g,e,hg⟩=>⟨g,e,Nat.le_trans HU4.out.size hg⟩)⟩)
     clear hM7 hU7
     go_region
     go_returns
     exact HP7.out
end Go.Proofs.YtfkcdnaghndgfaaGreatDoor
namespace Go.Proofs.YtfkcdnaghndgfaaGreatDoor
open Go.RowKit
attribute [local go_sem] Oper.semAt_some
def SameB (S:ByteArray) (i b m:Nat):Prop:=1≤b∧b≤i∧m≤258∧i+m≤S.size ∧ ∀ k,k<m → ∀ (h1:i+k<S.size) (h2:i+k-b<S.size),S[i+k]=S[i+k-b]
def We (bs:List Nat) (i b:Nat):Nat→Nat→Nat
 | 0,m=>m
 | f+1,m=>if i+m<bs.length∧bs.getD (i+m) 0=bs.getD (i+m-b) 0 then We bs i b f (m+1) else m
def lzN (S:ByteArray) (i:Nat) (B:Int):Nat:=if B<1∨(i:Int)<B then 0 else We (zc S) i B.toNat 258 0
theorem xD (S:ByteArray) (p:Nat) (h:p<S.size):(zc S).getD p 0=S[p].toNat:=by
 have h':p<(zc S).length:=by rw [zd]; exact h
 rw [List.getD_eq_getElem?_getD,List.getElem?_eq_getElem h',Option.getD_some,yf S p h h']
theorem zcW (S:ByteArray) (i b:Nat) : ∀ (f m:Nat),m+f≤258→SameB S i b m→SameB S i b (We (zc S) i b f m)
 | 0,m,_,h=>h
 | f+1,m,hf,h=>by
   unfold We
   split
   · rename_i hc
     obtain ⟨x1,x2,x3,x4,x5⟩:=h
     obtain ⟨hc1,hc2⟩:=hc
     rw [zd] at hc1
     refine zcW S i b f (m+1) (by omega) ⟨x1,x2,by omega,by omega,fun k hk h1 h2=>?_⟩
     by_cases hkm:k<m
     · exact x5 k hkm h1 h2
     · obtain rfl:k=m:=by omega
       rw [xD S _ h1,xD S _ h2] at hc2
       exact UInt8.toNat_inj.1 hc2
   · exact h
theorem ziH (S:ByteArray) (i:Nat) (B:Int) (hi:i≤S.size):lzN S i B≤258∧(lzN S i B=0∨SameB S i B.toNat (lzN S i B)∧1≤B):=by
 unfold lzN
 split
 · exact ⟨by omega,.inl rfl⟩
 · rename_i h
   have h:=zcW S i B.toNat 258 0 (by omega) ⟨by omega,by omega,by omega,by omega,fun k hk=>by omega⟩
   exact ⟨h.2.2.1,.inr ⟨h,by omega⟩⟩
def zdi (S:ByteArray) (i:Nat) (B:Int) (w:World) (e:Ending) (w':World):Prop:=e = .returned (.int .i64 (lzN S i B:Nat)) ∧ ∃ q,w'=w.drewN q
set_option maxRecDepth 100000 in
set_option maxHeartbeats 3200000 in
theorem zba (S:ByteArray) (i:Nat) (B:Int) (w:World) (hs:S.size≤65000) (hi:i≤S.size) (hB : -9223372036854775808≤B∧B≤9223372036854775807) :
 Calls Tryz.prog 127 #[.string S,.int .i64 (i:Nat),.int .i64 B] w fun e w'=>zdi S i B w e w':=by
 have t1 : ¬ (i:Int)<0:=by omega
 have t2 : ¬ (S.size:Int)<(i:Int):=by omega
 have HZ:Hid ((B<1∨(i:Int)<B)→lzN S i B=0):=Lib.hid (fun h=>by unfold lzN; rw [if_pos h])
 have HV:Hid (¬ (B<1∨(i:Int)<B)→lzN S i B=We (zc S) i B.toNat 258 0):=Lib.hid (fun h=>by unfold lzN; rw [if_neg h])
 obtain ⟨LN,hLN⟩ : ∃ LN,lzN S i B=LN:=⟨_,rfl⟩
 rw [hLN] at HZ HV
 have HLN:=Lib.hid hLN
 clear hLN
 go_enter Tryz.func127,Tryz.ntmps127
 by_cases h1:B<1
 · go_wp2
   go_ret
   exact ⟨by rw [HLN.out,HZ.out (.inl h1)]; rfl,0,rfl⟩
 · by_cases h2:(i:Int)<B
   · go_wp2
     go_ret
     exact ⟨by rw [HLN.out,HZ.out (.inr h2)]; rfl,0,rfl⟩
   · obtain ⟨b,rfl⟩ : ∃ b:Nat,B=(b:Int):=⟨B.toNat,by omega⟩
     have HVV:Hid (LN=We (zc S) i b 258 0):=Lib.hid (HV.out (by omega))
     have hb1:1≤b:=by omega
     have hbi:b≤i:=by omega
     go_wp2
     go_loopg [7] 258 (fun gg s7 wr => ∃ m:Nat,m≤258∧gg=258-m∧s7 = .int .i64 (m:Nat)∧Hid (LN=We (zc S) i b (258-m) m)∧Hid (∃ q,wr=w.drewN q))
     case atStart=>exact ⟨0,by omega,by omega,rfl,HVV,Lib.hid ⟨0,rfl⟩⟩
     case round =>
      obtain ⟨m,hm,rfl,rfl,HS,HU⟩:=hrel
      have hsub:IntKind.i64.wrap ((S.size:Int)-(i:Int))=(S.size:Int)-(i:Int):=by rw [IntWalk.i64_in _ (by omega)]
      by_cases c1:m<258
      · have d1:decide ((m:Int)<258)=true:=decide_eq_true (by omega)
        by_cases c2:i+m<S.size
        · have d2:decide ((m:Int)<(S.size:Int)-(i:Int))=true:=decide_eq_true (by omega)
          obtain ⟨p,hp⟩ : ∃ p,i+m=p:=⟨_,rfl⟩
          have HP:=Lib.hid hp
          have hpw:IntKind.i64.wrap ((i:Int)+(m:Int))=(p:Int):=by rw [IntWalk.i64_in _ (by omega)]; omega
          obtain ⟨q,hq⟩ : ∃ q,p-b=q:=⟨_,rfl⟩
          have HQ:=Lib.hid hq
          have hqw:IntKind.i64.wrap ((p:Int)-(b:Int))=(q:Int):=by rw [IntWalk.i64_in _ (by omega)]; omega
          have hps:p<S.size:=by omega
          have hqs:q<S.size:=by omega
          have hpz:(p:Int)<(S.size:Int):=by omega
          have hqz:(q:Int)<(S.size:Int):=by omega
          have hw1:IntKind.i64.wrap ((m:Int)+1)=((m+1:Nat):Int):=by rw [IntWalk.i64_in _ (by omega)]; rfl
          clear hp hq
          by_cases he:S[p]=S[q]
          · have HE:Hid (LN=We (zc S) i b (258-(m+1)) (m+1)):=Lib.hid (by
             have hp:=HP.out
             have hq:=HQ.out
             have h:=HS.out
             rw [show 258-m=(258-(m+1))+1 by omega] at h
             rw [h]
             show (if _ then _ else _)=_
             rw [if_pos ⟨by rw [zd]; omega,by subst hp; subst hq; rw [xD S _ hps,xD S _ hqs,he]⟩])
            go_wp2_with fail
            go_quiet (fail)
            have HUq:Hid (∃ q,wr.drewN nq=w.drewN q):=Lib.hid (by obtain ⟨q,e⟩:=HU.out; exact ⟨q+nq,by rw [e,World.drewN_drewN]⟩)
            generalize wr.drewN nq=wq at *
            go_wp2
            go_roundg (258-(m+1))
            · exact ⟨m+1,by omega,by first | rfl | omega,by first | rfl | go_num,HE,HUq⟩
            · omega
          · have hne : ¬ ((S[p].toNat:Nat):Int)=((S[q].toNat:Nat):Int):=fun h=>he (UInt8.toNat_inj.1 (by omega))
            have hned:decide (((S[p].toNat:Nat):Int)=((S[q].toNat:Nat):Int))=false:=decide_eq_false hne
            go_wp2_with fail
            go_quiet (fail)
            have HUq:Hid (∃ q,wr.drewN nq=w.drewN q):=Lib.hid (by obtain ⟨q,e⟩:=HU.out; exact ⟨q+nq,by rw [e,World.drewN_drewN]⟩)
            generalize wr.drewN nq=wq at *
            go_wp2
            go_ret
            have h1:=HS.out
            have hp:=HP.out
            have hq:=HQ.out
            rw [show 258-m=(258-(m+1))+1 by omega] at h1
            have h2:LN=m:=by rw [h1]; show (if _ then _ else _)=_; rw [if_neg (by subst hp; subst hq; rw [xD S _ hps,xD S _ hqs]; intro hh; exact he (UInt8.toNat_inj.1 hh.2))]
            exact ⟨by rw [HLN.out,h2]; rfl,HUq.out⟩
        · have d2:decide ((m:Int)<(S.size:Int)-(i:Int))=false:=decide_eq_false (by omega)
          go_wp2_with fail
          go_quiet (fail)
          have HUq:Hid (∃ q,wr.drewN nq=w.drewN q):=Lib.hid (by obtain ⟨q,e⟩:=HU.out; exact ⟨q+nq,by rw [e,World.drewN_drewN]⟩)
          generalize wr.drewN nq=wq at *
          go_wp2
          go_ret
          have h1:=HS.out
          rw [show 258-m=(258-(m+1))+1 by omega] at h1
          have h2:LN=m:=by rw [h1]; show (if _ then _ else _)=_; rw [if_neg (by rw [zd]; intro hh; exact c2 hh.1)]
          exact ⟨by rw [HLN.out,h2]; rfl,HUq.out⟩
      · have d1:decide ((m:Int)<258)=false:=decide_eq_false (by omega)
        go_wp2_with fail
        go_quiet (fail)
        have HUq:Hid (∃ q,wr.drewN nq=w.drewN q):=Lib.hid (by obtain ⟨q,e⟩:=HU.out; exact ⟨q+nq,by rw [e,World.drewN_drewN]⟩)
        generalize wr.drewN nq=wq at *
        go_wp2
        go_ret
        have h1:=HS.out
        obtain rfl:m=258:=by omega
        exact ⟨by rw [HLN.out,h1]; rfl,HUq.out⟩
end Go.Proofs.YtfkcdnaghndgfaaGreatDoor
