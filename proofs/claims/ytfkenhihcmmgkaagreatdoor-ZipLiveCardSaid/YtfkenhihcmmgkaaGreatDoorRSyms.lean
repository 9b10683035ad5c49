/- Package swingleref08: put: its walk. Laws for Symbols, Stored, Of. -/
import Derived.Test.YtfkenhihcmmgkaaGreatDoorQAW
import Derived.Test.YtfkenhihcmmgkaaGreatDoorRefT
set_option linter.unusedVariables false
set_option linter.unusedSimpArgs false
set_option linter.unusedSectionVars false
set_option maxRecDepth 100000
set_option maxHeartbeats 12800000
namespace Go.Proofs.YtfkenhihcmmgkaaGreatDoor
open Go.RowKit
theorem XAt.setOut {w:World} {bx br:Nat} {s:ByteArray} {why a:Nat} {O:ByteArray} {most:Nat} (h:XAt w bx br s why a O most) (O':ByteArray):XAt (w.setCell ⟨bx,1,none⟩ (.string O')) bx br s why a O' most:=by
 obtain ⟨bad,hR,hb⟩:=h.rd;exact ⟨h.blk.set 1 _,h.ne,⟨bad,hR.upd ((Upd.refl [bx] w).setCell (.inl (by simp)) _) (by have:=h.ne; simp; omega),hb⟩,h.le⟩
theorem XAt.drewN {w:World} {bx br:Nat} {s:ByteArray} {why a:Nat} {O:ByteArray} {most:Nat} (h:XAt w bx br s why a O most) (k:Nat):XAt (w.drewN k) bx br s why a O most:=h.upd ((Upd.refl [] w).drewN k) (by simp) (by simp)
def zgP (why:Nat) (O t:ByteArray) (most why':Nat) (O':ByteArray):Prop :=
 (why≠0∧why'=why∧O'=O)∨(why=0∧O.size+t.size≤most∧why'=0∧O'=O++t)∨(why=0 ∧ ¬ O.size+t.size≤most∧why'=4∧O'=O)
theorem Xs (bx br:Nat) (t:ByteArray) (w:World) (s:ByteArray) (why a:Nat) (O:ByteArray) (most:Nat) (h:XAt w bx br s why a O most) (hO:O.size≤1000000) (ht:t.size≤1000000) (hm:most≤1000000) :
 Calls Tryz.prog 183 #[.pointer (some ⟨bx,0,none⟩),.string t] w fun e w' => ∃ why' O',e = .returned (.tuple #[])∧XAt w' bx br s why' a O' most∧Upd [bx,br] w w'∧zgP why O t most why' O':=by
 have cA:=h.blk.all;have fA:=h.blk.frz;have z1:IntKind.i64.wrap ((O.size:Int)+(t.size:Int))=(O.size:Int)+(t.size:Int):=IntWalk.i64_in _ (by omega);by_cases hw:why=0
 · subst hw;have t0:(((0:Nat):Int)==0)=true:=rfl;by_cases hf:O.size+t.size≤most
   · have t1:decide ((most:Int)<(O.size:Int)+(t.size:Int))=false:=decide_eq_false (by omega);go_enter Tryz.func183,Tryz.ntmps183;go_wp2
     go_quiet (fail)
     go_wp2;go_returns;exact ⟨0,_,rfl,(h.drewN _).setOut _,((Upd.refl _ _).drewN _).setCell (.inl (by simp)) _,.inr (.inl ⟨rfl,hf,rfl,rfl⟩)⟩
   · have t1:decide ((most:Int)<(O.size:Int)+(t.size:Int))=true:=decide_eq_true (by omega);go_enter Tryz.func183,Tryz.ntmps183;go_wp2
     go_quiet (fail)
     go_wp2;go_returns;exact ⟨4,_,rfl,(h.drewN _).setWhy 4 (by omega),((Upd.refl _ _).drewN _).setCell (.inl (by simp)) _,.inr (.inr ⟨rfl,hf,rfl,rfl⟩)⟩
 · have t1:((why:Int)==0)=false:=(by simp; omega);have t2:(why==0)=false:=(by simp; omega);go_enter Tryz.func183,Tryz.ntmps183;go_wp2
   go_quiet (fail)
   go_wp2;go_returns;exact ⟨why,O,rfl,h.drewN _,(Upd.refl _ _).drewN _,.inl ⟨hw,rfl,rfl⟩⟩
theorem zil : ∀ c:Fin 300,ye (c.val:Nat)≤5:=by decide +kernel
theorem zhm : ∀ c:Fin 300,yP (c.val:Nat)≤13:=by decide +kernel
theorem yI {α β γ:Type} (x:Except Nat α) (f:α→Except Nat β) (g:β→Except Nat γ):(x >>= f) >>= g=x >>= fun r=>f r >>= g:=by cases x<;>rfl
def xr {α:Type} (l1 l2:List Int) (s:ByteArray) (most g:Nat) (k:List Nat×Nat→Except Nat α) (q:List Nat×Nat):Except Nat α:=yT l1 l2 s most g q.1 q.2 >>= k
theorem zeT {α:Type} (l1 l2:List Int) (s:ByteArray) (most g:Nat) (k:List Nat×Nat→Except Nat α) (out:List Nat) (a:Nat) :
 yT l1 l2 s most (g+1) out a >>= k=yk l1 s a >>= fun r=>qv l2 s most (yT l1 l2 s most g) out r >>= k:=yI _ _ _
theorem ziP {α:Type} (l1 l2:List Int) (s:ByteArray) (most g:Nat) (k:List Nat×Nat→Except Nat α) (out:List Nat) (v a:Nat) (hv:v<256) :
 qv l2 s most (yT l1 l2 s most g) out (v,a) >>= k=if decide (out.length+1≤most)=true then xr l1 l2 s most g k (out++[v],a) else .error 4:=by
 unfold qv;dsimp only;rw [if_neg (by omega),if_pos hv];by_cases h:out.length+1≤most
 · rw [if_pos h,decide_eq_true h]; rfl
 · rw [if_neg h,decide_eq_false h]; rfl
theorem zgx {α:Type} (l1 l2:List Int) (s:ByteArray) (most g:Nat) (k:List Nat×Nat→Except Nat α) (out:List Nat) (v a:Nat) (h1:v≠256) (h2 : ¬ v<256) :
 qv l2 s most (yT l1 l2 s most g) out (v,a) >>= k=if decide (0≤ye (v:Nat))=true then (zu s a (ye (v:Nat)).toNat >>= fun r=>xq l2 s most v out r >>= xr l1 l2 s most g k) else .error 2:=by
 unfold qv;dsimp only;rw [if_neg h1,if_neg h2];unfold Ju;by_cases h:ye (v:Nat)<0
 · rw [if_pos h,decide_eq_false (by omega)]; rfl
 · rw [if_neg h,decide_eq_true (by omega),yI,yI]; rfl
theorem Vf {α:Type} {l2:List Int} {s:ByteArray} {most sym:Nat} {out:List Nat} {r:Nat×Nat} (k:List Nat×Nat→Except Nat α) (h:xy (sym:Nat) (r.1:Nat)=none) (x:Except Nat α):xq l2 s most sym out r >>= k=if false=true then x else .error 2:=by
 unfold xq; rw [h]; rfl
theorem YU {α:Type} {l2:List Int} {s:ByteArray} {most sym:Nat} {out:List Nat} {r:Nat×Nat} {long:Nat} (k:List Nat×Nat→Except Nat α) (h:xy (sym:Nat) (r.1:Nat)=some long) :
 xq l2 s most sym out r >>= k=if true=true then (yk l2 s r.2 >>= fun q=>xK s most long out q >>= k) else .error 2:=by
 unfold xq; rw [h,if_pos rfl,← yI]
theorem YZ {α:Type} {s:ByteArray} {most long:Nat} {out:List Nat} {c a:Nat} (k:List Nat×Nat→Except Nat α) :
 xK s most long out (c,a) >>= k=if decide (0≤yP (c:Nat))=true then (zu s a (yP (c:Nat)).toNat >>= fun q=>qC most long out c a q >>= k) else .error 2:=by
 unfold xK;dsimp only;by_cases h:yP (c:Nat)<0
 · rw [if_pos h,decide_eq_false (by omega)]; rfl
 · rw [if_neg h,decide_eq_true (by omega),yI]; rfl
theorem Wq {α:Type} {most long:Nat} {out:List Nat} {c a:Nat} {r:Nat×Nat} (k:List Nat×Nat→Except Nat α) (h:jS 1 2 4 30 (c:Nat) (r.1:Nat)=none) (x:Except Nat α):qC most long out c a r >>= k=if false=true then x else .error 2:=by
 unfold qC; rw [h]; rfl
theorem Wg {α:Type} {most long:Nat} {out:List Nat} {c a:Nat} {r:Nat×Nat} {far:Nat} (k:List Nat×Nat→Except Nat α) (h:jS 1 2 4 30 (c:Nat) (r.1:Nat)=some far) :
 qC most long out c a r >>= k=if decide (far≤out.length)=true then (if decide (out.length+long≤most)=true then k (yH far long out,r.2) else .error 4) else .error 2:=by
 unfold qC;rw [h];dsimp only;by_cases h1:far≤out.length
 · rw [if_pos h1,decide_eq_true h1,if_pos rfl];by_cases h2:out.length+long≤most
   · rw [if_pos h2,decide_eq_true h2]; rfl
   · rw [if_neg h2,decide_eq_false h2]; rfl
 · rw [if_neg h1,decide_eq_false h1]; rfl
theorem Sp.put {α:Type} {TP rest:Except Nat α} {why why' most:Nat} {O t O':ByteArray} {b:Bool} (h:Sp TP why (if b=true then rest else .error 4)) (ht:zgP why O t most why' O') (hb:b=decide (O.size+t.size≤most)):Sp TP why' rest:=by
 rcases h with ⟨h1,h2⟩ | ⟨h1,h2⟩
 · rcases ht with ⟨_,h3,_⟩ | ⟨h3,_⟩ | ⟨h3,_⟩
   · exact .inl ⟨by omega,by rw [h3]; exact h2⟩
   · omega
   · omega
 · rcases ht with ⟨h3,_⟩ | ⟨_,h3,h4,_⟩ | ⟨_,h3,h4,_⟩
   · omega
   · exact .inr ⟨h4,by rw [h2,hb,if_pos (by simpa using h3)]⟩
   · exact .inl ⟨by omega,by rw [h2,hb,if_neg (by simpa using h3),h4]⟩
theorem zfZ (out:List Nat) (i:Nat) (h:i<out.length):(zg out).extract i (i+1)=zg [out.getD i 0]:=by
 apply ByteArray.ext;apply Array.ext';simp [zg,List.getD,List.getElem?_eq_getElem h,List.take_one]
theorem Sp.must' {α:Type} {TP rest:Except Nat α} {why why':Nat} {b b':Bool} (h:Sp TP why (if b'=true then rest else .error 2)) (ht:JY why b why') (hb:b=b'):Sp TP why' rest:=by subst hb; exact h.must ht
def zjj {α:Type} (w:World) (bx br:Nat) (s:ByteArray) (most:Nat) (TP:Except Nat α) (k:List Nat×Nat→Except Nat α) (e:Ending) (w':World):Prop :=
 ∃ why' out' a',e = .returned (.tuple #[])∧XAt w' bx br s why' a' (zg out') most∧out'.length≤most∧Upd [bx,br] w w'∧Sp TP why' (k (out',a'))
def zkN {α:Type} (w0 w:World) (bx br:Nat) (s:ByteArray) (most:Nat) (TP:Except Nat α) (R:List Nat→Nat→Except Nat α) (out:List Nat) (why a g:Nat):Prop :=
 XAt w bx br s why a (zg out) most∧out.length≤most∧Upd [bx,br] w0 w∧Sp TP why (R out a)∧(why=0→8*s.size<g+a)
theorem kM {α:Type} (k:List Nat×Nat→Except Nat α) (TP:Except Nat α) (bx br F:Nat) (p1 p2:Option Addr) (k1 k2:Nat) (l1 l2:List Int) (w:World) (s:ByteArray) (why a:Nat) (out:List Nat) (most:Nat)
 (h:XAt w bx br s why a (zg out) most) (hs:s.size≤1099511627776) (hm:most≤65000) (hout:out.length≤most)
 (hI1:IntsIn w p1 l1.length l1) (hI2:IntsIn w p2 l2.length l2) (hl1:l1.length≤300) (hl2:l2.length≤300)
 (hn1 : ∀ b' off,p1=some ⟨b',off,none⟩→b'∉[bx,br]) (hn2 : ∀ b' off,p2=some ⟨b',off,none⟩→b'∉[bx,br])
 (hk:why=0→zm l1≠3∧zm l1≠0∧zm l2≠3) (hF:why=0→8*s.size<F+a) (hT:Sp TP why (xr l1 l2 s most F k (out,a))) :
 Calls Tryz.prog 116 #[.pointer (some ⟨bx,0,none⟩),.slice p1 l1.length k1,.slice p2 l2.length k2] w (zjj w bx br s most TP k):=by
 have hbx:=h.blk.lt;have hbr:br<w.heap.size:=by obtain ⟨bad,hR,_⟩:=h.rd; exact hR.1.lt
 have HT:=Hi hT;have HF:=Hi hF;have HK:=Hi hk;clear hT hF hk;go_enter Tryz.func116,Tryz.ntmps116;go_wp2_with fail
 refine (JS p1 l1.length k1 l1 w (by omega) hI1).mono ?_;rintro e w1 ⟨cv1,rfl,hU1,hcv1⟩;go_wp2_with fail
 refine (JS p2 l2.length k2 l2 w1 (by omega) (hI2.pure hU1)).mono ?_;rintro e w2 ⟨cv2,rfl,hU2,hcv2⟩;have hs1:=hU1.size;have HC1:Hid (zm l1≠3 → ∃ g,cv1 = .slice (some ⟨g,0,none⟩) l1.length l1.length∧g∉[bx,br]∧Row w2 24 1 (.slice (some ⟨g,0,none⟩) l1.length l1.length) l1.length (qf (jo (zj l1)))):=Hi (fun h1=>by
  obtain ⟨g,e,hg,hR⟩:=hcv1 h1;exact ⟨g,e,by simp; omega,hR.upd hU2 (by simp)⟩)
 have HC2:Hid (zm l2≠3 → ∃ g,cv2 = .slice (some ⟨g,0,none⟩) l2.length l2.length∧g∉[bx,br]∧Row w2 24 1 (.slice (some ⟨g,0,none⟩) l2.length l2.length) l2.length (qf (jo (zj l2)))):=Hi (fun h1=>by
  obtain ⟨g,e,hg,hR⟩:=hcv2 h1;exact ⟨g,e,by simp; omega,hR⟩)
 have hU02:Upd [] w w2:=hU1.then hU2;have hX2:=h.upd hU02 (by simp) (by simp);have HI1:=Hi (hI1.pure hU02);have HI2:=Hi (hI2.pure hU02);have HU:=Hi hU02;have hbx2:bx<w2.heap.size:=hX2.blk.lt;have hbr2:br<w2.heap.size:=by obtain ⟨bad,hR,_⟩:=hX2.rd; exact hR.1.lt
 have HN1:=Hi hn1;have HN2:=Hi hn2;clear hcv1 hcv2 hI1 hI2 hU1 hU2 hU02 h hn1 hn2 hs1;go_wp2;go_loopg [] F (fun gg wr => ∃ g O a' y,gg=g∧zkN w2 wr bx br s most TP (fun O a=>xr l1 l2 s most g k (O,a)) O y a' g∧(y=0→why=0))
 case atStart=>exact ⟨F,out,a,why,rfl,⟨hX2,hout,.refl _ _,HT.out,HF.out⟩,id⟩
 case round =>
  obtain ⟨g,O,a',y,hgg,hR,hyw⟩:=hrel;obtain ⟨hX,hO,hU,hSp,hB⟩:=hR;have H:=Hi hSp;have HB:=Hi hB;have c3:=hX.blk.cell 3 rfl;clear hSp hB HT HF hX2 hout;by_cases hw:y=0
  · subst hw;have hw0:=hyw rfl;subst hw0;have hle:=hX.le;obtain ⟨g,rfl⟩ : ∃ g',g=g'+1:=⟨g-1,by have:=HB.out rfl; omega⟩;subst hgg;have hB:=HB.out rfl;obtain ⟨hk3,hk0,hk2⟩:=HK.out rfl;have H1:=Hi (show Sp TP 0 (yk l1 s a' >>= fun r=>qv l2 s most (yT l1 l2 s most g) O r >>= k) from by
     have h:=H.out; change Sp TP 0 (yT l1 l2 s most (g+1) O a' >>= k) at h; rw [zeT] at h; exact h)
    have HN:=Hi (Zb p1 k1 bx br cv1 l1 wr s 0 a' (zg O) most hX hs (HI1.out.upd hU HN1.out) (fun b off e=>by have:=HN1.out b off e; simp at this; simp [this.2]) (fun _=>by
     obtain ⟨g,e,hg,hR⟩:=HC1.out hk3;exact ⟨hk3,hk0,g,e,by simp at hg; exact hg.2,hR.upd hU (fun k hk hm=>hg (by cases hk; exact hm))⟩))
    have HK2:=Hi hk2;clear H HB hk3 hk0 hyw hle hk2;(go_wp2_with fail);refine HN.out.mono ?_;rintro e w3 ⟨v,y1,a1,rfl,hv,hX3,hU3,hn⟩;have H2:=Hi (H1.out.next hn);have hadv:y1=0→a'<a1:=fun h=>by
     rcases hn with ⟨h1,_⟩ | ⟨_,h1,_⟩ | ⟨_,_,h1,_⟩
     · omega
     · exact jB h1
     · omega
    have HAD:=Hi hadv;have c3:=hX3.blk.cell 3 rfl;have hUr:=hU.then hU3;have hv3:v<300:=(by omega);have hle3:=hX3.le;clear hn hadv H1 HN hX hU3 hU hv;by_cases hy1:y1=0
    · subst hy1;have hlt:=HAD.out rfl;by_cases hv256:v=256
      · subst hv256;have H3:=Hi (show Sp TP 0 (k (O,a1)) from H2.out);clear H2;go_wp2;go_returns;exact ⟨0,O,a1,rfl,hX3,hO,(HU.out.mono (by simp)).then hUr,H3.out⟩
      · have t1:((v:Int)==256)=false:=(by simp; omega);by_cases hlit:v<256
        · have t2:decide ((v:Int)<256)=true:=decide_eq_true (by omega);have e8:IntKind.u8.wrap (v:Int)=(v:Int):=(by rw [IntKind.wrap_u8]; omega);have H3:=Hi (show Sp TP 0 (if decide (O.length+1≤most)=true then xr l1 l2 s most g k (O++[v],a1) else .error 4) from by
           have h:=H2.out; rw [ziP _ _ _ _ _ _ _ _ _ hlit] at h; exact h)
          clear H2;have hsz:=zk O;have hsv:(zg [v]).size=1:=zk [v];have HP:=fun w' (hX:XAt w' bx br s 0 a1 (zg O) most)=>Xs bx br (zg [v]) w' s 0 a1 (zg O) most hX (by omega) (by omega) (by omega);have HP:=Hi HP;have HSZ:=Hi hsz;have HSV:=Hi hsv;clear hsz hsv;have hc1:=ju (P:=Tryz.prog) (w3.alloc (.cells #[.int .u8 (v:Nat)] 5)) 97 9 5 Tryz.underlying97 Tryz.underlying5 Tryz.underlying9 (l:=[v]) (Row.new w3 [.int .u8 (v:Nat)] 5 1 1 (by decide) rfl);(go_wp2_with fail);refine (HP.out _ (hX3.upd ((Upd.refl [] _).alloc _) (by simp) (by simp))).mono ?_;rintro e w4 ⟨y2,O2,rfl,hX4,hU4,hp4⟩;have H4:=H3.out.put hp4 (by rw [HSZ.out,HSV.out]);have hO2 : ∃ Q,O2=zg Q∧Q.length≤most∧(y2=0→Q=O++[v]):=by
           rcases hp4 with ⟨h1,_⟩ | ⟨_,h1,h2,h3⟩ | ⟨_,h1,h2,h3⟩
           · exact absurd rfl h1
           · exact ⟨O++[v],by rw [h3,zI],by rw [HSZ.out,HSV.out] at h1; simpa using h1,fun _=>rfl⟩
           · exact ⟨O,h3,hO,fun h=>by omega⟩
          obtain ⟨Q,rfl,hQ,hQe⟩:=hO2;have HQ:=Hi hQe;have H4:=Hi H4;clear hQe hp4;go_wp2;go_roundg g
          · refine ⟨g,Q,a1,y2,rfl,⟨hX4,hQ,(hUr.alloc _).then hU4,?_,fun _=>by omega⟩,by simp⟩;by_cases h0:y2=0
            · rw [HQ.out h0]; exact H4.out
            · exact H4.out.late h0 _
          · omega
        · have t2:decide ((v:Int)<256)=false:=decide_eq_false (by omega);obtain ⟨bb,hbb⟩ : ∃ bb,bb=ye (v:Nat):=⟨_,rfl⟩;have hb5:bb≤5:=(by rw [hbb]; exact zil ⟨v,hv3⟩);obtain ⟨nb,hnb⟩ : ∃ nb:Nat,nb=bb.toNat:=⟨_,rfl⟩;have em:max bb 0=(nb:Int):=(by omega);have hnb5:nb≤5:=(by omega);have H3:=Hi (show Sp TP 0 (if decide (0≤bb)=true then (zu s a1 nb >>= fun r=>xq l2 s most v O r >>= xr l1 l2 s most g k) else .error 2) from by
           have h:=H2.out; rw [zgx _ _ _ _ _ _ _ _ _ hv256 hlit,← hbb,← hnb] at h; exact h)
          have HL:=YS v w3 hv3;rw [← hbb] at HL;have HL:=Hi HL;clear H2 hbb hnb hb5;(go_wp2_with fail);refine HL.out.mono ?_;rintro e w4 ⟨rfl,hU4⟩;have hX4:=hX3.upd hU4 (by simp) (by simp);(go_wp2_with fail);refine (zX bx br _ w4 s 0 a1 (zg O) most hX4).mono ?_;rintro e w5 ⟨y2,rfl,hX5,hU5,hm5⟩;have H4:=Hi (H3.out.must hm5);clear hm5 H3 HL;(go_wp2_with fail);refine (yx bx br nb w5 s y2 a1 (zg O) most hX5 hs (by omega)).mono ?_;rintro e w6 ⟨v2,y3,a3,rfl,hv2,hX6,hU6,ht6⟩;have H5:=Hi (H4.out.take ht6);have hv2':v2<32:=Nat.lt_of_lt_of_le hv2 (Nat.pow_le_pow_right (by omega) (show nb≤5 by omega));have hle6:a1≤a3:=(by rcases ht6 with ⟨_,_,_,h⟩ | ⟨_,h,_⟩ | ⟨_,_,_,_,h⟩<;>first | exact Nat.le_of_eq h.symm | exact yL h);clear ht6 H4 hv2 em;have HL:=Hi (zaw v v2 w6 hv3 hv2');have hU36:=((hUr.then (hU4.mono (by simp))).then hU5).then hU6;clear hUr hU4 hU5 hU6 hX3 hX4 hX5;(go_wp2_with fail);refine HL.out.mono ?_;rintro e w7 ⟨rfl,hU7⟩;have hX7:=hX6.upd hU7 (by simp) (by simp);have hU37:=hU36.then (hU7.mono (by simp));clear HL hU36 hU7 hX6;cases hln:xy (v:Nat) (v2:Nat) with
          | none =>
            have H6:=Hi (show Sp TP y3 (if false=true then k (O,a3) else .error 2) from by
             have h:=H5.out; rw [Vf _ hln (k (O,a3))] at h; exact h)
            unfold jn;simp only [Option.getD_none,Option.isSome_none];clear hln;(go_wp2_with fail);refine (zX bx br false w7 s y3 a3 (zg O) most hX7).mono ?_;rintro e w8 ⟨y4,rfl,hX8,hU8,hm8⟩;have hy4:=QI hm8;have H7:=Hi (H6.out.must hm8);have t3:((y4:Int) != 0)=true:=(by simp; omega);have t4:(y4 != 0)=true:=(by simp; omega);have d3:=hX8.blk.cell 3 rfl;clear hm8;go_wp2;go_returns;exact ⟨y4,O,a3,rfl,hX8,hO,(HU.out.mono (by simp)).then (hU37.then hU8),H7.out⟩
          | some long =>
            have H6:=Hi (show Sp TP y3 (if true=true then (yk l2 s a3 >>= fun q=>xK s most long O q >>= xr l1 l2 s most g k) else .error 2) from by
             have h:=H5.out; rw [YU _ hln] at h; exact h)
            have hlong:=zai hln;unfold jn;simp only [Option.getD_some,Option.isSome_some];clear hln H5;(go_wp2_with fail);refine (zX bx br true w7 s y3 a3 (zg O) most hX7).mono ?_;rintro e w8 ⟨y4,rfl,hX8,hU8,hm8⟩;have H7:=Hi (H6.out.must hm8);have d3:=hX8.blk.cell 3 rfl;have f3:=hX8.blk.frz 3;have hU38:=hU37.then hU8;clear hm8 H6 hU37 hU8 hX7;by_cases hy4:y4=0
            · subst hy4;have hI8:=HI2.out.upd hU38 HN2.out;have HKI:=kt p2 l2.length k2 l2 w8 (by omega) hI8;by_cases hk0:zm l2=0
              · rw [hk0] at HKI;have HKI:=Hi HKI;have H8:=Hi (show TP = .error 2 from by
                 rcases H7.out with ⟨h,_⟩ | ⟨_,h⟩
                 · exact absurd rfl h
                 · rw [h]; unfold yk; rw [if_pos (.inr hk0)]; rfl)
                clear hk0 hI8;(go_wp2_with fail);refine HKI.out.mono ?_;rintro e w9 ⟨rfl,rfl⟩;go_wp2;go_returns;exact ⟨2,O,a3,rfl,hX8.setWhy 2 (by omega),hO,((HU.out.mono (by simp)).then hU38).setCell (.inl (by simp)) _,.inl ⟨by omega,H8.out⟩⟩
              · have HN2':=Hi (Zb p2 k2 bx br cv2 l2 w8 s 0 a3 (zg O) most hX8 hs hI8 (fun b off e=>by have:=HN2.out b off e; simp at this; simp [this.2]) (fun _=>by
                 obtain ⟨g,e,hg,hR⟩:=HC2.out HK2.out;exact ⟨HK2.out,hk0,g,e,by simp at hg; exact hg.2,hR.upd hU38 (fun k hk hm=>hg (by cases hk; exact hm))⟩))
                obtain ⟨kk,hkk⟩ : ∃ kk,kk=zm l2:=⟨_,rfl⟩;rw [← hkk] at HKI;have t3:((kk:Int)==0)=false:=(by simp; omega);have HKI:=Hi HKI;clear hk0 hI8 hkk;(go_wp2_with fail);refine HKI.out.mono ?_;rintro e w9 ⟨rfl,rfl⟩;(go_wp2_with fail);refine HN2'.out.mono ?_;rintro e w9 ⟨code,y5,a5,rfl,hcode,hX9,hU9,hn9⟩;have H8:=Hi (show Sp TP y5 (xK s most long O (code,a5) >>= xr l1 l2 s most g k) from H7.out.next hn9);have hc3:code<300:=(by omega);have hadv9:y5=0→a3<a5:=fun h=>by
                 rcases hn9 with ⟨h1,_⟩ | ⟨_,h1,_⟩ | ⟨_,_,h1,_⟩
                 · omega
                 · exact jB h1
                 · omega
                have HAD9:=Hi hadv9;have hU39:=hU38.then hU9;clear hn9 hadv9 H7 HN2' HKI hU38 hU9 hX8 hcode d3 f3 t3 c3;obtain ⟨bb,hbb⟩ : ∃ bb,bb=yP (code:Nat):=⟨_,rfl⟩;have hb13:bb≤13:=(by rw [hbb]; exact zhm ⟨code,hc3⟩);obtain ⟨nb,hnb⟩ : ∃ nb:Nat,nb=bb.toNat:=⟨_,rfl⟩;have em:max bb 0=(nb:Int):=(by omega);have hnb13:nb≤13:=(by omega);have H9:=Hi (show Sp TP y5 (if decide (0≤bb)=true then (zu s a5 nb >>= fun q=>qC most long O code a5 q >>= xr l1 l2 s most g k) else .error 2) from by
                 have h:=H8.out; rw [YZ,← hbb,← hnb] at h; exact h)
                have HL:=Vg code w9 hc3;rw [← hbb] at HL;have HL:=Hi HL;clear H8 hbb hnb hb13 hv2' hv3 hnb5 hle3;(go_wp2_with fail);refine HL.out.mono ?_;rintro e w10 ⟨rfl,hU10⟩;have hX10:=hX9.upd hU10 (by simp) (by simp);(go_wp2_with fail);refine (zX bx br _ w10 s y5 a5 (zg O) most hX10).mono ?_;rintro e w11 ⟨y6,rfl,hX11,hU11,hm11⟩;have H10:=Hi (H9.out.must hm11);have hl1:=Hi (show y6=0→y5=0 from fun h=>by rcases hm11 with ⟨h1,h2⟩ | ⟨h1,_⟩ | ⟨h1,_⟩<;>omega);clear hm11 H9 HL;(go_wp2_with fail);refine (yx bx br nb w11 s y6 a5 (zg O) most hX11 hs (by omega)).mono ?_;rintro e w12 ⟨v5,y7,a6,rfl,hv5,hX12,hU12,ht12⟩;have H11:=Hi (H10.out.take ht12);have hv5':v5<1000000:=Nat.lt_of_lt_of_le hv5 (Nat.le_trans (Nat.pow_le_pow_right (by omega) (show nb≤13 by omega)) (by omega));have hle12:=Hi (show a5≤a6 from by rcases ht12 with ⟨_,_,_,h⟩ | ⟨_,h,_⟩ | ⟨_,_,_,_,h⟩<;>first | exact Nat.le_of_eq h.symm | exact yL h);have hl2:=Hi (show y7=0→y6=0 from fun h=>by rcases ht12 with ⟨h1,_,h2,_⟩ | ⟨h1,_⟩ | ⟨h1,_⟩<;>omega);clear ht12 H10 hv5 em;have HL:=Hi (WG code v5 w12 hc3 hv5');have hU912:=(((hU10.mono (fp':=[bx,br]) (by simp)).then hU11).then hU12);clear hU10 hU11 hU12 hX9 hX10 hX11;(go_wp2_with fail);refine HL.out.mono ?_;rintro e w13 ⟨rfl,hU13⟩;have hX13:=hX12.upd hU13 (by simp) (by simp);have hU313:=hU39.then (hU912.then (hU13.mono (fp':=[bx,br]) (by simp)));have d1:=hX13.blk.cell 1 rfl;clear HL hU912 hU13 hX12 hU39;obtain ⟨o,ho⟩ : ∃ o,o=jS 1 2 4 30 (code:Nat) (v5:Nat):=⟨_,rfl⟩;rw [← ho];have HO:=Hi ho.symm;clear ho;unfold jn;obtain ⟨back,hback⟩ : ∃ back,back=o.getD 0:=⟨_,rfl⟩;rw [← hback];have HBK:=Hi hback;obtain ⟨ob,hob⟩ : ∃ ob,ob=o.isSome:=⟨_,rfl⟩;rw [← hob];have HOB:=Hi hob;clear hback hob;(go_upto_region 17 with fail);go_cut [] (fun wx => ∃ y8:Nat,XAt wx bx br s y8 a6 (zg O) most∧Upd [bx,br] w13 wx∧Hid (Sp TP y8 (if decide (O.length+long≤most)=true then xr l1 l2 s most g k (yH back long O,a6) else .error 4))∧Hid (y8=0→1≤back∧back≤O.length)∧Hid (y8=0→y5=0))
                case first =>
                 cases o with
                 | none =>
                   have hb0:back=0:=HBK.out;have hf0:ob=false:=HOB.out;subst hb0;subst hf0;have H12:=Hi (fun x=>show Sp TP y7 (if false=true then x else .error 2) from by
                    have h:=H11.out; rw [Wq _ HO.out x] at h; exact h)
                   clear H11;(go_wp2_with fail);refine (zX bx br false w13 s y7 a6 (zg O) most hX13).mono ?_;rintro e w14 ⟨y8,rfl,hX14,hU14,hm14⟩;have hy8:=QI hm14;have H13:=Hi ((H12.out (if decide (O.length+long≤most)=true then xr l1 l2 s most g k (yH 0 long O,a6) else .error 4)).must hm14);clear hm14 H12;go_wp2;go_meet;exact ⟨y8,hX14,hU14,H13,Hi fun h=>absurd h hy8,Hi fun h=>absurd h hy8⟩
                 | some back' =>
                   have hb0:back=back':=HBK.out;have hf0:ob=true:=HOB.out;subst hb0;subst hf0;have H12:=Hi (show Sp TP y7 (if decide (back≤O.length)=true then (if decide (O.length+long≤most)=true then xr l1 l2 s most g k (yH back long O,a6) else .error 4) else .error 2) from by
                    have h:=H11.out; rw [Wg _ HO.out] at h; exact h)
                   have hback:=zd4 HO.out;clear H11;(go_wp2_with fail);refine (zX bx br _ w13 s y7 a6 (zg O) most hX13).mono ?_;rintro e w14 ⟨y8,rfl,hX14,hU14,hm14⟩;have H13:=Hi (H12.out.must' hm14 (by rw [zk]));have HM:=Hi (show y8=0→y7=0∧back≤O.length from fun h=>by
                    subst h;refine ⟨by rcases hm14 with ⟨h1,h2⟩ | ⟨h1,_⟩ | ⟨h1,_⟩<;>omega,?_⟩;have h:=VP hm14;rw [zk] at h;simpa using h)
                   clear hm14 H12;go_wp2;go_meet;exact ⟨y8,hX14,hU14,H13,Hi fun h=>⟨hback,(HM.out h).2⟩,Hi fun h=>hl1.out (hl2.out (HM.out h).1)⟩
                case rest =>
                 obtain ⟨y6,hX,hUc,H,HB,HZ6⟩:=hcut;have HL6:Hid (y5=0→a5≤a6):=Hi fun _=>hle12.out;have cA:=hX.blk.all;have c3:=hX.blk.cell 3 rfl;have c1:=hX.blk.cell 1 rfl;have HS:=Hi (zk O);have hUn:=hU313.then hUc;clear hU313 hUc hX13 d1 H11 HO HBK HOB hl1 hl2 hle12;(go_upto_region 18 with fail);go_cut [124] (fun s124 wx => ∃ (b:Bool),s124 = .bool b∧XAt wx bx br s y6 a6 (zg O) most∧Upd [bx,br] w2 wx∧Hid (b=decide (y6=0 ∧ ¬ O.length+long≤most)))
                 case first =>
                  have hsz:(zg O).size=O.length:=HS.out;by_cases hy6:y6=0
                  · subst hy6;have z1:IntKind.i64.wrap (((zg O).size:Int)+(long:Int))=((zg O).size:Int)+(long:Int):=IntWalk.i64_in _ (by omega);have HZ:=Hi (show decide ((most:Int)<((zg O).size:Int)+(long:Int))=decide (0=0 ∧ ¬ O.length+long≤most) from by rw [hsz]; apply decide_eq_decide.2; omega);clear hsz HS;generalize zg O=OS at *;go_wp2
                    go_quiet (fail)
                    go_wp2;go_meet;exact ⟨_,rfl,hX.drewN _,hUn.drewN _,HZ⟩
                  · have t1:((y6:Int)==0)=false:=(by simp; omega);have t2:(y6==0)=false:=(by simp; omega);clear hsz HS;generalize zg O=OS at *;go_wp2
                    go_quiet (fail)
                    go_wp2;go_meet;exact ⟨false,rfl,hX.drewN _,hUn.drewN _,Hi (by simp [hy6])⟩
                 case rest =>
                  obtain ⟨b,rfl,hX,hUn2,HBB⟩:=hcut;have f3:=hX.blk.frz 3;clear hUn c1 cA c3;(go_upto_if 124 with fail);go_cut [] (fun wx => ∃ y7,XAt wx bx br s y7 a6 (zg O) most∧Upd [bx,br] w2 wx∧Hid (Sp TP y7 (xr l1 l2 s most g k (yH back long O,a6)))∧Hid (y7=0→y6=0∧O.length+long≤most))
                  case first =>
                   cases b with
                   | true =>
                     have H2:=Hi (show TP = .error 4 from by
                      have hb:=HBB.out.symm;rw [decide_eq_true_eq] at hb;have h:=H.out;rw [decide_eq_false hb.2] at h;rcases h with ⟨h,_⟩ | ⟨_,h⟩
                      · exact absurd hb.1 h
                      · exact h)
                     have c3:=hX.blk.cell 3 rfl;clear H;go_wp2;go_meet;exact ⟨4,hX.setWhy 4 (by omega),hUn2.setCell (.inl (by simp)) _,Hi (.inl ⟨by omega,H2.out⟩),Hi fun h=>by omega⟩
                   | false =>
                     have H2:=Hi (show Sp TP y6 (xr l1 l2 s most g k (yH back long O,a6))∧(y6=0→O.length+long≤most) from by
                      have hb:=HBB.out.symm;rw [decide_eq_false_iff_not] at hb;by_cases hy6:y6=0
                      · have hf:O.length+long≤most:=(by omega);have h:=H.out;rw [decide_eq_true hf] at h;exact ⟨h,fun _=>hf⟩
                      · exact ⟨H.out.late hy6 _,fun h=>absurd h hy6⟩)
                     clear H;go_wp2;go_meet;exact ⟨y6,hX,hUn2,Hi H2.out.1,Hi fun h=>⟨h,H2.out.2 h⟩⟩
                  case rest =>
                   obtain ⟨y7,hX7,hU7,H7,HB7⟩:=hcut;clear hX hUn2 H f3 HS HBB;go_wp2;go_loopg [15] long (fun gg s15 wx => ∃ i,i≤long∧gg=long-i∧s15 = .int .i64 (i:Nat)∧XAt wx bx br s y7 a6 (zg (yH back i O)) most∧Upd [bx,br] w2 wx∧(y7≠0→i=0))
                   case atStart=>exact ⟨0,by omega,rfl,rfl,hX7,hU7,fun _=>rfl⟩
                   case round =>
                    obtain ⟨i,hi,rfl,rfl,hXi,hUi,hyi⟩:=hrel;have c3:=hXi.blk.cell 3 rfl;by_cases hy:y7=0
                    · subst hy;obtain ⟨hy60,hfit⟩:=HB7.out rfl;obtain ⟨hb1,hb2⟩:=HB.out hy60;have hy50:=HZ6.out hy60;have hlt6:=HL6.out hy50;have hlt9:=HAD9.out hy50;clear hyi;by_cases hc:i<long
                      · have t1:decide ((i:Int)<(long:Int))=true:=decide_eq_true (by omega);have t1':decide (i<long)=true:=decide_eq_true hc;obtain ⟨Q,hQ⟩ : ∃ Q,Q=yH back i O:=⟨_,rfl⟩;have hQl:Q.length=O.length+i:=(by rw [hQ,kT]);rw [← hQ] at hXi;obtain ⟨j,hj⟩ : ∃ j,Q.length=j+back:=⟨Q.length-back,by omega⟩;have hnx:zg (yH back (i+1) O)=zg Q++(zg Q).extract j (j+1):=by
                         rw [XX,← hQ,zfZ Q j (by omega),zI,show Q.length-back=j by omega]
                        have hsz:=zk Q;have c1:=hXi.blk.cell 1 rfl;have f1:=hXi.blk.frz 1;have HNX:=Hi hnx;have z1:IntKind.i64.wrap (((zg Q).size:Int)-(back:Int))=(j:Int):=(by rw [IntWalk.i64_in _ (by omega)]; omega);have z2:IntKind.i64.wrap ((j:Int)+1)=(j:Int)+1:=IntWalk.i64_in _ (by omega);have z4:(0:Int)≤(j:Int):=(by omega);have z5:(j:Int)≤(j:Int)+1:=(by omega);have z6:(j:Int)+1≤((zg Q).size:Int):=(by omega);have z7:((j:Int)+1).toNat=j+1:=(by omega);have hadd : ∀ W',(Op.stringOp .add (zg Q) ((zg Q).extract j (j+1))).run Tryz.prog W' = .ok (.string (zg Q++(zg Q).extract j (j+1))) W':=fun W'=>run_string_add_sum _ _ _ (by rw [ByteArray.size_extract]; omega);clear hnx hQ hQl hj hsz;generalize zg Q=QS at *;go_wp2
                        go_still_tail 27,(by kernel_rfl)
                        go_wp2;go_roundg (long-(i+1))
                        · refine ⟨i+1,by omega,rfl,by first | rfl | go_num,?_,?_,fun h=>absurd rfl h⟩
                          · rw [HNX.out]; exact (hXi.upd ((Upd.refl [] _).drew) (by simp) (by simp)).setOut _
                          · exact hUi.drew.setCell (.inl (by simp)) _
                        · omega
                      · have t1:decide ((i:Int)<(long:Int))=false:=decide_eq_false (by omega);have t1':decide (i<long)=false:=decide_eq_false hc;have hil:i=long:=(by omega);subst hil;have hlen:=kT back i O;go_wp2;go_roundg g
                        · exact ⟨g,yH back i O,a6,0,rfl,⟨hXi,by omega,hUi,H7.out,fun _=>by omega⟩,by simp⟩
                        · omega
                    · have hi0:=hyi hy;subst hi0;have t2:((y7:Int)==0)=false:=(by simp; omega);have t3:(y7==0)=false:=(by simp; omega);by_cases hc:0<long
                      · have t1:decide ((0:Int)<(long:Int))=true:=decide_eq_true (by omega);have t1':decide (0<long)=true:=decide_eq_true hc;go_wp2;go_roundg g
                        · exact ⟨g,O,a6,y7,rfl,⟨hXi,hO,hUi,H7.out.late hy _,fun h=>absurd h hy⟩,by simp⟩
                        · omega
                      · have t1:decide ((0:Int)<(long:Int))=false:=decide_eq_false (by omega);have t1':decide (0<long)=false:=decide_eq_false hc;go_wp2;go_roundg g
                        · exact ⟨g,O,a6,y7,rfl,⟨hXi,hO,hUi,H7.out.late hy _,fun h=>absurd h hy⟩,by simp⟩
                        · omega
            · have t3:((y4:Int) != 0)=true:=(by simp; omega);have t4:(y4 != 0)=true:=(by simp; omega);go_wp2;go_returns;exact ⟨y4,O,a3,rfl,hX8,hO,(HU.out.mono (by simp)).then hU38,H7.out.late hy4 _⟩
    · have t1:((y1:Int) != 0)=true:=(by simp; omega);have t2:(y1 != 0)=true:=(by simp; omega);go_wp2;go_returns;exact ⟨y1,O,a1,rfl,hX3,hO,(HU.out.mono (by simp)).then hUr,H2.out.late hy1 _⟩
  · have t1:((y:Int)==0)=false:=(by simp; omega);have t2:(y==0)=false:=(by simp; omega);go_wp2;go_returns;exact ⟨y,O,a',rfl,hX,hO,(HU.out.mono (by simp)).then hU,H.out.late hw _⟩
theorem XAt.rdTo {w w':World} {bx br:Nat} {s:ByteArray} {a a':Nat} {O:ByteArray} {most:Nat} (h:XAt w bx br s 0 a O most) (hU:Upd [br] w w') (hR:RdAt w' br 175 s a' false):XAt w' bx br s 0 a' O most :=
 ⟨h.blk.upd hU (by have:=h.ne; simp; omega),h.ne,⟨false,hR,fun _=>rfl⟩,hR.2⟩
theorem zca {α:Type} (s:ByteArray) (most:Nat) (out:List Nat) (n:Nat) (r:Nat×Nat) (k:List Nat×Nat→Except Nat α) :
 xx s most out n r >>= k=if decide (r.1=65535-n)=true then (if xA s r.2 false (n:Nat)=true then .error 3 else if decide (out.length+n≤most)=true then k (out++zf (xC s r.2 false (n:Nat)),jv s r.2 false (n:Nat)) else .error 4) else .error 2:=by
 unfold xx;by_cases h1:r.1=65535-n
 · rw [if_pos h1,decide_eq_true h1,if_pos rfl];by_cases h2:xA s r.2 false (n:Nat)=true
   · rw [if_pos h2,if_pos h2]; rfl
   · rw [if_neg h2,if_neg h2];by_cases h3:out.length+n≤most
     · rw [if_pos h3,decide_eq_true h3]; rfl
     · rw [if_neg h3,decide_eq_false h3]; rfl
 · rw [if_neg h1,decide_eq_false h1]; rfl
theorem zbJ {s:ByteArray} {a n:Nat} (h:xA s a false (n:Nat)=false):(xC s a false (n:Nat)).size=n:=by
 unfold xC;rw [h,if_neg (by simp)];simp [xA] at h;rw [ByteArray.size_extract];omega
theorem zbj {α:Type} (k:List Nat×Nat→Except Nat α) (TP:Except Nat α) (bx br:Nat) (w:World) (s:ByteArray) (a:Nat) (out:List Nat) (most:Nat)
 (h:XAt w bx br s 0 a (zg out) most) (hs:s.size≤1099511627776) (hm:most≤65000) (hout:out.length≤most) (hT:Sp TP 0 (jj s most out a >>= k)) :
 Calls Tryz.prog 114 #[.pointer (some ⟨bx,0,none⟩)] w (zjj w bx br s most TP k):=by
 have HT:=Hi (show Sp TP 0 (zu s (xG a false) 16 >>= fun r=>zu s r.2 16 >>= fun r2=>xx s most out r.1 r2 >>= k) from by
  unfold jj at hT; rw [yI] at hT;have e:(fun r:Nat×Nat=>(zu s r.2 16 >>= xx s most out r.1) >>= k)=(fun r=>zu s r.2 16 >>= fun r2=>xx s most out r.1 r2 >>= k):=funext fun r=>yI _ _ _;rw [e] at hT; exact hT)
 clear hT;obtain ⟨bad,hR,hb⟩:=h.rd;have hb:=hb rfl;subst hb;have HA:=Hi (Zq br w s a false hR hs);have c0:=h.blk.cell 0 rfl;clear hR;go_enter Tryz.func114,Tryz.ntmps114;go_wp2_with fail
 refine HA.out.mono ?_;rintro e w1 ⟨rfl,hR1,hU1⟩;have h1:=h.rdTo hU1 hR1;have hU01:Upd [bx,br] w w1:=hU1.mono (by simp);clear h hR1 hU1 c0 HA;generalize xG a false=a0 at *;go_wp2_with fail
 refine (yx bx br 16 w1 s 0 a0 (zg out) most h1 hs (by omega)).mono ?_;rintro e w2 ⟨n,y1,a1,rfl,hn,h2,hU2,ht2⟩;have H2:=Hi (HT.out.take ht2);have hn':n<65536:=hn;clear ht2 hn HT h1;go_wp2_with fail
 refine (yx bx br 16 w2 s y1 a1 (zg out) most h2 hs (by omega)).mono ?_;rintro e w3 ⟨m,y2,a2,rfl,hm3,h3,hU3,ht3⟩;have H3:=Hi (show Sp TP y2 (xx s most out n (m,a2) >>= k) from H2.out.take ht3);have hm':m<65536:=hm3;have hU03:=(hU01.then hU2).then hU3;clear ht3 hm3 H2 h2 hU01 hU2 hU3;have e1:IntKind.i64.wrap ((n:Int)+(m:Int))=((n+m:Nat):Int):=by rw [IntWalk.i64_in _ (by omega)]; omega
 go_wp2_with fail
 refine (zX bx br _ w3 s y2 a2 (zg out) most h3).mono ?_;rintro e w4 ⟨y3,rfl,h4,hU4,hm4⟩;have H4:=Hi (Sp.must' (rest:=if xA s a2 false (n:Nat)=true then .error 3 else if decide (out.length+n≤most)=true then k (out++zf (xC s a2 false (n:Nat)),jv s a2 false (n:Nat)) else .error 4) (b':=decide (m=65535-n)) (by have h:=H3.out; rw [zca] at h; exact h) hm4 (by rw [Bool.eq_iff_iff]; simp; omega));have hU04:=hU03.then hU4;have c3:=h4.blk.cell 3 rfl;clear hm4 H3 h3 hU03 hU4 e1;by_cases hy:y3=0
 · subst hy;obtain ⟨bad,hR4,hb⟩:=h4.rd;have hb:=hb rfl;subst hb;have hX:=Hi (zbM br (n:Nat) w4 s a2 false hR4 hs);have c0:=h4.blk.cell 0 rfl;clear hR4;cases hbad:xA s a2 false (n:Nat) with
   | true =>
     have H5:=Hi (show TP = .error 3 from by
      have h:=H4.out;rw [if_pos hbad] at h;rcases h with ⟨h,_⟩ | ⟨_,h⟩
      · exact absurd rfl h
      · exact h)
     rw [hbad] at hX;have hst:xC s a2 false (n:Nat)=⟨#[]⟩:=(by unfold xC; rw [if_pos hbad]);rw [hst] at hX;clear hbad hst H4;(go_wp2_with fail);refine hX.out.mono ?_;rintro e w5 ⟨rfl,hR5,hU5⟩;have hB5:=h4.blk.upd hU5 (by have:=h4.ne; simp; omega);have c0:=hB5.cell 0 rfl;have f3:=hB5.frz 3;have e3:=hB5.cell 3 rfl;have d2:=hR5.1.cell 2 rfl;have HP:=Hi (fun w' (hX:XAt w' bx br s 3 (jv s a2 false (n:Nat)) (zg out) most)=>Xs bx br ⟨#[]⟩ w' s 3 (jv s a2 false (n:Nat)) (zg out) most hX (by rw [zk]; omega) (by simp [ByteArray.size]) (by omega));have h6:XAt (w5.setCell ⟨bx,3,none⟩ (.int .i64 (3:Nat))) bx br s 3 (jv s a2 false (n:Nat)) (zg out) most:=⟨hB5.set 3 _,h4.ne,⟨true,hR5.upd ((Upd.refl [bx] w5).setCell (.inl (by simp)) _) (by have:=h4.ne; simp; omega),fun h=>by omega⟩,hR5.2⟩;have hU06:Upd [bx,br] w (w5.setCell ⟨bx,3,none⟩ (.int .i64 (3:Nat))):=(hU04.then (hU5.mono (by simp))).setCell (.inl (by simp)) _;clear hR5 hU5 h4 hU04;generalize jv s a2 false (n:Nat)=a5 at *;(go_wp2_with fail);refine (HP.out _ h6).mono ?_;rintro e w7 ⟨y7,O7,rfl,h7,hU7,hp7⟩;have e7:y7=3∧O7=zg out:=by
      rcases hp7 with ⟨_,h1,h2⟩ | ⟨h1,_⟩ | ⟨h1,_⟩
      · exact ⟨h1,h2⟩
      · omega
      · omega
     obtain ⟨rfl,rfl⟩:=e7;clear hp7;go_wp2;go_returns;exact ⟨3,out,a5,rfl,h7,hout,hU06.then hU7,.inl ⟨by omega,H5.out⟩⟩
   | false =>
     have H5:=Hi (show Sp TP 0 (if decide (out.length+n≤most)=true then k (out++zf (xC s a2 false (n:Nat)),jv s a2 false (n:Nat)) else .error 4) from by
      have h:=H4.out;rw [if_neg (by rw [hbad]; simp)] at h;exact h)
     have hsz:=zbJ hbad;rw [hbad] at hX;clear hbad H4;generalize xC s a2 false (n:Nat)=T at *;generalize jv s a2 false (n:Nat)=a5 at *;have HSZ:=Hi hsz;clear hsz;(go_wp2_with fail);refine hX.out.mono ?_;rintro e w5 ⟨rfl,hR5,hU5⟩;have h5:=h4.rdTo hU5 hR5;have c0:=h5.blk.cell 0 rfl;have d2:=hR5.1.cell 2 rfl;have hU05:=hU04.then (hU5.mono (fp':=[bx,br]) (by simp));clear hR5 hU5 h4 hU04;(go_wp2_with fail);refine (Xs bx br T w5 s 0 a5 (zg out) most h5 (by rw [zk]; omega) (by rw [HSZ.out]; omega) (by omega)).mono ?_;rintro e w7 ⟨y7,O7,rfl,h7,hU7,hp7⟩;have H7:=Hi (H5.out.put hp7 (by rw [zk,HSZ.out]));have hO7 : ∃ Q,O7=zg Q∧Q.length≤most∧(y7=0→Q=out++zf T):=by
      rcases hp7 with ⟨h1,_⟩ | ⟨_,h1,h2,h3⟩ | ⟨_,h1,h2,h3⟩
      · exact absurd rfl h1
      · exact ⟨out++zf T,by rw [h3,← zI,zE],by rw [zk] at h1; rw [List.length_append,zi]; exact h1,fun _=>rfl⟩
      · exact ⟨out,h3,hout,fun h=>by omega⟩
     obtain ⟨Q,rfl,hQ,hQe⟩:=hO7;have HQ:=Hi hQe;clear hp7 hQe;go_wp2;go_returns;refine ⟨y7,Q,a5,rfl,h7,hQ,hU05.then hU7,?_⟩;by_cases h0:y7=0
     · rw [HQ.out h0]; exact H7.out
     · exact H7.out.late h0 _
 · have t1:((y3:Int) != 0)=true:=(by simp; omega);have t2:(y3 != 0)=true:=(by simp; omega);go_wp2;go_returns;exact ⟨y3,out,a2,rfl,h4,hout,hU04,H4.out.late hy _⟩
end Go.Proofs.YtfkenhihcmmgkaaGreatDoor
