/- Package lens: Of: its walk. -/
import Derived.Test.YtfkenhihcmmgkaaGreatDoorQBI
import Derived.ArgAppend
import Derived.WideKeyPair
import Derived.DeepKeys4
import Derived.Sort.QuietIn
import Derived.Stop.RegionWithIn
import Derived.Test.YtfkenhihcmmgkaaGreatDoorQBE
import Derived.OrdersIn
import Derived.TacticsIn
import Derived.Deep.RegionHeld
import Derived.Carry
set_option linter.unusedVariables false
set_option linter.unusedSimpArgs false
set_option linter.unusedSectionVars false
set_option maxRecDepth 100000
set_option maxHeartbeats 12800000
namespace Go.Proofs.YtfkenhihcmmgkaaGreatDoor
open Go.RowKit
theorem zcL (n:Nat) (hn:n≤1000000) (w:World):(Instr.makeSlice 57 (.int .i64 (n:Int)) (.int .i64 (n:Int))).run Tryz.prog w = .ok (.slice (some ⟨w.heap.size,0,none⟩) n n) (w.alloc (.cells (zl (List.replicate n 0)).toArray 3)):=by
 obtain ⟨i0,hi,hz0,hz1,hz2⟩:=info_parts qh;have h:=run_make (P:=Tryz.prog) w 57 3 i0 _ Tryz.underlying57 hi hz0 .i64 .i64 (n:Int) (n:Int) (by omega) (by omega) (by rw [hz2]; omega) (by omega);rw [h,hz1];have e:madeCells (Value.int .i64 0).cells ((n:Int).toNat*1)=(zl (List.replicate n 0)).toArray:=by
  apply Array.toList_inj.1;rw [show (Value.int .i64 0).cells = #[Value.int .i64 0] from rfl,toList_madeCells_one];simp [zl]
 rw [e];rfl
def ofL (many:List Int) (u:List Nat) (L n:Nat):List Nat:=if u.length=1 then (List.replicate n 0).set (u.getD 0 0) 1 else (List.range n).map fun s=>qF many u L s
def zbB (L:Int) (n:Nat) (u:List Nat):Prop:=L<1∨15<L∨300<n∨2^L.toNat<u.length
def zjf (many:List Int) (u:List Nat) (L:Int) (n:Nat) (w:World) (v:Value) (w':World):Prop :=
 (zbB L n u∧v = .slice none 0 0)∨(¬ zbB L n u ∧ ∃ ob,v = .slice (some ⟨ob,0,none⟩) n n∧w.heap.size≤ob∧Blk w' ob (zl (ofL many u L.toNat n)) 3)
def OfP (many:List Int) (L:Int) (n:Nat) (w:World) (e:Ending) (w':World):Prop := ∃ v u,e = .returned v∧IsUsed many many.length u∧zjf many u L n w v w'∧Upd [] w w'
theorem ziO (many:List Int) : ∃ u,IsUsed many many.length u:=by
 cases h:many.length with
 | zero=>exact ⟨[],IsUsed.nil many⟩
 | succ m =>
   have hdl : ∃ d:List (Fin (m+1)),d.map Fin.val=xH many (m+1):=⟨(xH many (m+1)).attach.map fun x=>⟨x.1,((qe _ _ _).1 x.2).1⟩,by simp⟩;obtain ⟨d,hdm⟩:=hdl;have:=Zv many m h d hdm;rw [h] at this;exact ⟨_,this⟩
theorem zc2 (many:List Int) (a:Option Addr) (n cap:Nat) (L:Int) (w:World) (hI:IntsIn w a n many) (hn:n≤1000000) :
 Calls Tryz.prog 298 #[.slice a n cap,.int .i64 L] w fun e w'=>OfP many L n w e w':=by
 have HUSD:=Hi (fun w1 (h:Upd [] w w1)=>WW many a n cap w1 (hI.pure h) hn);have HI:=Hi hI;obtain ⟨u0,hu0⟩:=ziO many;have HU0:=Hi hu0;have HLN:=Hi hI.len;clear hI hu0;by_cases h1:L<1
 · go_enter Tryz.func298,Tryz.ntmps298;go_wp2;go_ret;exact ⟨_,u0,rfl,HU0.out,.inl ⟨.inl h1,rfl⟩,Upd.refl _ _⟩
 by_cases h2:15<L
 · go_enter Tryz.func298,Tryz.ntmps298;go_wp2;go_ret;exact ⟨_,u0,rfl,HU0.out,.inl ⟨.inr (.inl h2),rfl⟩,Upd.refl _ _⟩
 by_cases h3:300<n
 · have h3z:(300:Int)<(n:Int):=(by omega);go_enter Tryz.func298,Tryz.ntmps298;go_wp2;go_ret;exact ⟨_,u0,rfl,HU0.out,.inl ⟨.inr (.inr (.inl h3)),rfl⟩,Upd.refl _ _⟩
 have h3z : ¬ (300:Int)<(n:Int):=by omega
 have hmk:=zcL n hn;obtain ⟨l,rfl⟩ : ∃ l:Nat,L=(l:Int):=⟨L.toNat,by omega⟩;have hl1:1≤l:=by omega
 have hl2:l≤15:=by omega
 obtain ⟨P,hP⟩ : ∃ P:Nat,2^l=P:=⟨_,rfl⟩;have hPb:P≤32768:=by
  have:=Nat.pow_le_pow_right (n:=2) (by omega) hl2;omega
 have hpw:wrap64 ((2:Int)^l)=(P:Int):=by
  have:((2:Int)^l)=(P:Int):=by rw [← hP]; simp
  rw [this];unfold wrap64;omega
 have HPP:=Hi hP;clear hP;go_enter Tryz.func298,Tryz.ntmps298;go_wp2_with fail
 refine (HUSD.out _ (Upd.refl _ _)).mono ?_;rintro e w1 ⟨v1,u,rfl,hu,hO,hU⟩;obtain ⟨a1,c1,rfl⟩:=hO.form;obtain ⟨k,hk⟩ : ∃ k,(zl u).length=k:=⟨_,rfl⟩;rw [hk] at hO ⊢;have HK:Hid (u.length=k):=Hi (by rw [← hk,zq]);have HUs:=Hi hu;have HR1:Hid (Row w1 3 1 (.slice a1 k c1) k (zl u)):=Hi (by have:=hO.1; rwa [hk] at this);have HU:=Hi hU;clear hk hu hO hU HUSD HU0;have HTN:Hid ((l:Int).toNat=l):=Hi (by omega);by_cases hb:P<k
 · have hbz:(P:Int)<(k:Int):=(by omega);go_wp2;go_ret;exact ⟨_,u,rfl,HUs.out,.inl ⟨.inr (.inr (.inr (by rw [HTN.out,HPP.out,HK.out]; exact hb))),rfl⟩,HU.out.alloc _⟩
 have hbz : ¬ (P:Int)<(k:Int):=by omega
 have HNB:Hid (¬ zbB (l:Int) n u):=Hi (by
  unfold zbB;rw [HTN.out,HPP.out,HK.out];omega)
 rcases Nat.lt_or_ge k 1 with hk0 | hk0
 · obtain rfl:k=0:=(by omega);go_wp2;go_ret;refine ⟨_,u,rfl,HUs.out,.inr ⟨HNB.out,_,rfl,HU.out.size,?_⟩,HU.out.alloc _⟩;have hu:u=[]:=List.eq_nil_of_length_eq_zero HK.out;have e:ofL many u (l:Int).toNat n=List.replicate n 0:=by
    subst hu;unfold ofL;rw [if_neg (by simp)];apply List.ext_getElem
    · simp
    · intro i h1 h2;simp [qF,jG]
   rw [e];exact Blk.new w1 _ _
 · rcases Nat.lt_or_ge k 2 with hk1 | hk1
   · obtain rfl:k=1:=(by omega);have hu1:u.length=1:=HK.out;have hlt:u[0]<n:=(by have:=((HUs.out.mem u[0]).1 (List.getElem_mem (by omega))).1; rwa [HLN.out] at this);obtain ⟨g,c2,hv,hg,hle⟩:=HR1.out.form' (by omega);cases hv;have hc1:w1.cell? ⟨g,0,none⟩=some (.int .i64 (u[0]:Nat)):=HR1.out.cell 0 (by rw [zl,List.getElem?_map,List.getElem?_eq_getElem (by omega)]; rfl);have HE:Hid (ofL many u (l:Int).toNat n=(List.replicate n 0).set u[0] 1):=Hi (by
      unfold ofL;rw [if_pos hu1];simp [List.getD_eq_getElem?_getD,hu1])
     generalize u[0]=s at *;have hsz:(s:Int)<(n:Int):=(by omega);have hb1:=Blk.new w1 (zl (List.replicate n 0)) 3;have hf1:=hb1.frz s;have hcc:=hb1.cell s (v := .int .i64 0) (by simp [zl,hlt]);have hcg:(w1.alloc (.cells (zl (List.replicate n 0)).toArray 3)).cell? ⟨g,0,none⟩=some (.int .i64 (s:Nat)):=((Upd.refl [] w1).alloc (.cells (zl (List.replicate n 0)).toArray 3)).at hg (by simp) 0 |>.trans hc1;have HB1:=Hi hb1;have HU2:=Hi (HU.out.alloc (.cells (zl (List.replicate n 0)).toArray 3));have HSZ:=Hi HU.out.size;clear hb1 hu1 hg hc1 HK HR1 hle;go_wp2;go_ret;refine ⟨_,u,rfl,HUs.out,.inr ⟨HNB.out,_,rfl,HSZ.out,?_⟩,HU.out.alloc _⟩;rw [HE.out,xL];exact Blk.new w1 _ _
   · have hk1z : ¬ k=1:=(by omega);have hk1y:(1:Int)<(k:Int):=(by omega);have hrow:2*k-2≤(yb (lvs many u) l).length:=by
      have:=(Ks many u l HUs.out.srt (by rw [HK.out]; exact hk1) (by rw [HK.out,HPP.out]; omega)).1;rwa [HK.out] at this
     have hun:k≤n:=by
      have:=HUs.out.le;rw [HK.out,HLN.out] at this;exact this
     have hua:Upd [] w1 (w1.alloc (.cells (zl (List.replicate n 0)).toArray 3)):=(Upd.refl _ _).alloc _;obtain ⟨g,c2,hv,hg,hle⟩:=HR1.out.form' (by omega);cases hv;have HF:=Hi (zgh many u l n n w1.heap.size k c1 cap (some ⟨g,0,none⟩) a _ (Blk.new w1 (zl (List.replicate n 0)) 3) (fun i hi=>⟨g,0,rfl,by
      rw [Nat.zero_add];exact (hua.at hg (by simp) i).trans (HR1.out.cell i (by rw [zl,List.getElem?_map,List.getElem?_eq_getElem hi]; rfl))⟩)
      ((HI.out.pure HU.out).pure hua) (by omega) hl2 HK.out hk1 hun (fun s hs=>by have:=((HUs.out.mem s).1 hs).1; rwa [HLN.out] at this) hrow)
     clear hrow hun hua hg hle;(go_wp2_with fail);refine HF.out.mono ?_;rintro e w4 ⟨rfl,hB4,hU4⟩;have HB4:=Hi hB4;have HU4:=Hi hU4;have HSZ:=Hi HU.out.size;clear hB4 hU4 HF;go_wp2;go_ret;refine ⟨_,u,rfl,HUs.out,.inr ⟨HNB.out,_,rfl,HSZ.out,?_⟩,(HU.out.alloc _).trans HU4.out (fun q hq => .inr (by simp at hq; have:=HSZ.out; omega))⟩;have e:ofL many u (l:Int).toNat n=(List.range n).map fun s=>qF many u l s:=by
      unfold ofL;rw [if_neg (by rw [HK.out]; omega),HTN.out]
     rw [e];exact HB4.out
structure Tok where
 byte:Nat
 long:Int
 back:Int
def Tok.cs (t:Tok):List Value:=[.int .u8 (t.byte:Nat),.int .i64 t.long,.int .i64 t.back]
structure TokIn (w:World) (a:Option Addr) (len:Nat) (l:List Tok):Prop where
 len:l.length=len
 cell : ∀ i (h:i<l.length),∃ b off,a=some ⟨b,off,none⟩∧(w.cell? ⟨b,off+i*3,none⟩=some (.int .u8 (l[i].byte:Nat))∧w.cell? ⟨b,off+i*3+1,none⟩=some (.int .i64 l[i].long)∧w.cell? ⟨b,off+i*3+2,none⟩=some (.int .i64 l[i].back)) ∧
  l[i].byte<256∧(-9223372036854775808≤l[i].long∧l[i].long≤9223372036854775807)∧(-9223372036854775808≤l[i].back∧l[i].back≤9223372036854775807)
theorem TokIn.upd {w w':World} {a:Option Addr} {len:Nat} {l:List Tok} {fp:List Nat} (h:TokIn w a len l) (hU:Upd fp w w') (hf : ∀ b off,a=some ⟨b,off,none⟩→b∉fp):TokIn w' a len l :=
 ⟨h.len,fun i hi=>by
  obtain ⟨b,off,e,⟨c1,c2,c3⟩,r⟩:=h.cell i hi;have hb:b<w.heap.size:=World.block_lt_of_cell? w _ c1;exact ⟨b,off,e,⟨(hU.at hb (hf b off e) _).trans c1,(hU.at hb (hf b off e) _).trans c2,(hU.at hb (hf b off e) _).trans c3⟩,r⟩⟩
theorem TokIn.pure {w w':World} {a:Option Addr} {len:Nat} {l:List Tok} (h:TokIn w a len l) (hU:Upd [] w w'):TokIn w' a len l:=h.upd hU (by simp)
def zdL (t:Tok) (n:Nat):Prop:=t.byte≠0∨t.long<3∨258<t.long∨t.back<1∨32768<t.back∨(n:Int)<t.back∨65000<t.long+(n:Int)
instance (t:Tok) (n:Nat):Decidable (zdL t n):=by unfold zdL; infer_instance
def yu (t:Tok):Prop:=(t.long=0∧t.back=0∧t.byte<256)∨(t.long=0∧t.back=0∧t.byte<256)
end Go.Proofs.YtfkenhihcmmgkaaGreatDoor
namespace Go.Proofs.YtfkenhihcmmgkaaGreatDoor
open Go.RowKit Go.Maps Go.WideMaps
variable {P:Program} {k e t:TypeId}
def MapLt (P:Program) (k e:TypeId) (w:World) (b n m:Nat):Prop :=
 ∃ D:DataW Unit,w.ownsMap P k (plainElem P e) b n D ∧ ∀ kl z,D.atKey kl z=z ∨ ∃ p:Nat,p<m∧D.atKey kl z = .lit (.int .i64 (p:Nat))
theorem MapLt.new (w:World) (m:Nat):MapLt P k e (w.alloc (.map #[] 0)) w.heap.size 0 m :=
 ⟨.map [],World.ownsMap_made _ _ _ _,fun kl z => .inl rfl⟩
theorem MapLt.upd {w w':World} {b n m:Nat} {fp:List Nat} (h:MapLt P k e w b n m) (hu:Upd fp w w') (hn:b∉fp):MapLt P k e w' b n m:=by
 obtain ⟨D,h1,h2⟩:=h;exact ⟨D,Zu h1 hu hn,h2⟩
theorem MapLt.mono {w:World} {b n m m':Nat} (h:MapLt P k e w b n m) (hm:m≤m'):MapLt P k e w b n m':=by
 obtain ⟨D,h1,h2⟩:=h;exact ⟨D,h1,fun kl z=>(h2 kl z).imp_right fun ⟨p,hp,e⟩=>⟨p,by omega,e⟩⟩
theorem MapLt.lt {w:World} {b n m:Nat} (h:MapLt P k e w b n m):b<w.heap.size:=by obtain ⟨D,h1,_⟩:=h; exact h1.lt
theorem MapLt.look {w:World} {b n m:Nat} (h:MapLt P k e w b n m) (K:Keyed P k) (ht:P.underlying t=some (.map k e)) (he:P.underlying e=some (.int .i64)) (hz:(zeroValue e).run P w = .ok (.int .i64 0) w) {key:Value} {kl:Lit} (hkey:keyOf P k key=some kl) :
 (Instr.lookup t (.map (some b)) key true).run P w = .ok (.tuple #[.int .i64 0,.bool false]) w ∨ ∃ p:Nat,p<m∧(Instr.lookup t (.map (some b)) key true).run P w = .ok (.tuple #[.int .i64 (p:Nat),.bool true]) w:=by
 obtain ⟨D,⟨es,clock,hb,F,_,rfl⟩,h2⟩:=h;rcases Maps.fit_look true K ht hz hb F hkey with ⟨hrun,_,_⟩ | ⟨e0,y,_,_,hrun,hR,hat,_⟩
 · exact .inl (by rw [hrun]; rfl)
 · right;obtain ⟨a,hv,hy,_⟩:=plainElem_int_inv he hR;rcases h2 kl .nil with e1 | ⟨p,hp,e1⟩
   · rw [hat,hy] at e1;cases e1
   · rw [hat,hy] at e1;simp only [DataW.lit.injEq,Lit.int.injEq,true_and] at e1;exact ⟨p,hp,by rw [hrun,hv,e1]; rfl⟩
theorem MapLt.store {w:World} {b n m:Nat} (h:MapLt P k e w b n m) (K:Keyed P k) (ht:P.underlying t=some (.map k e)) (he:P.underlying e=some (.int .i64)) {key:Value} {kl:Lit} (hkey:keyOf P k key=some kl) (hn:n<maxLen) (v:Nat) (hvm:v<m) (hv:v≤9223372036854775807) :
 ∃ w',(Instr.mapUpdate t (.map (some b)) key (.int .i64 (v:Nat))).run P w = .ok () w'∧MapLt P k e w' b (n+1) m∧Upd [b] w w':=by
 obtain ⟨D,h1,h2⟩:=h;have hw:(Lit.int .i64 (v:Nat)).wf=true:=by simp [Lit.wf,IntKind.min,IntKind.max,IntKind.signed,IntKind.bits]; omega
 obtain ⟨w',hr,h3,h4⟩:=h1.update K ht hn hkey (plainElem_int he hw);refine ⟨w',hr,⟨_,h3,fun kl' z=>?_⟩,(Upd.refl _ w).grown h4 (fun j hj => .inl (by simp at hj; simp [hj]))⟩;by_cases hp:kl'=kl
 · subst hp;exact .inr ⟨v,hvm,by rw [atKey_put_same (h1.tidy K).isMap (K.key hkey)]⟩
 · rw [atKey_put_other hp];exact h2 kl' z
end Go.Proofs.YtfkenhihcmmgkaaGreatDoor
namespace Go.Proofs.YtfkenhihcmmgkaaGreatDoor
open Go.RowKit
attribute [local go_sem] Oper.semAt_some
def zvs (l:List Int):List Value:=l.map fun x => .int .i64 x
def FinR (w:World) (fb mb:Nat) (S:ByteArray) (v:Value) (m:Nat) (D:Int):Prop :=
 Blk w fb [.string S,.map (some mb),v,.int .i64 D] 285 ∧
 (∃ xs:List Int,xs.length=m∧(∀ x∈xs,-1≤x∧x<m)∧Row w 3 1 v m (zvs xs))∧fb≠mb∧v.ownBlock≠some fb∧v.ownBlock≠some mb
def zkG (w:World) (mb n m:Nat):Prop:=MapLt Tryz.prog 318 3 w mb n m
def FinAt (w:World) (fb mb:Nat) (S:ByteArray) (v:Value) (m:Nat) (D:Int):Prop:=FinR w fb mb S v m D ∧ ∃ n,n≤m∧zkG w mb n m
theorem FinR.upd {w w':World} {fb mb:Nat} {S:ByteArray} {v:Value} {m:Nat} {D:Int} {fp:List Nat} (h:FinR w fb mb S v m D) (hu:Upd fp w w') (h1:fb∉fp) (h3 : ∀ k,v.ownBlock=some k→k∉fp):FinR w' fb mb S v m D:=by
 obtain ⟨a,⟨xs,c1,c2,c3⟩,d⟩:=h;exact ⟨a.upd hu h1,⟨xs,c1,c2,c3.upd hu h3⟩,d⟩
theorem FinAt.upd {w w':World} {fb mb:Nat} {S:ByteArray} {v:Value} {m:Nat} {D:Int} {fp:List Nat} (h:FinAt w fb mb S v m D) (hu:Upd fp w w') (h1:fb∉fp) (h2:mb∉fp) (h3 : ∀ k,v.ownBlock=some k→k∉fp):FinAt w' fb mb S v m D:=by
 obtain ⟨a,n,hn,b⟩:=h;exact ⟨a.upd hu h1 h3,n,hn,b.upd hu h2⟩
theorem FinAt.pure {w w':World} {fb mb:Nat} {S:ByteArray} {v:Value} {m:Nat} {D:Int} (h:FinAt w fb mb S v m D) (hu:Upd [] w w'):FinAt w' fb mb S v m D:=h.upd hu (by simp) (by simp) (by simp)
end Go.Proofs.YtfkenhihcmmgkaaGreatDoor
namespace Go.Proofs.YtfkenhihcmmgkaaGreatDoor
open Go.RowKit
attribute [local go_sem] Oper.semAt_some
def zkx (S:ByteArray) (i b m:Nat):Prop:=1≤b∧b≤i∧m≤258∧i+m≤S.size ∧ ∀ k,k<m → ∀ (h1:i+k<S.size) (h2:i+k-b<S.size),S[i+k]=S[i+k-b]
end Go.Proofs.YtfkenhihcmmgkaaGreatDoor
namespace Go.Proofs.YtfkenhihcmmgkaaGreatDoor
open Go.RowKit Go.Maps
attribute [local go_sem] Oper.semAt_some
theorem KJ (fb i:Nat) (w:World):Calls Tryz.prog 260 #[.pointer (some ⟨fb,0,none⟩),.int .i64 (i:Nat)] w fun e w' =>
 e = .returned (.func (.func 304) #[] #[.pointer (some ⟨w.heap.size+1,0,none⟩),.pointer (some ⟨w.heap.size,0,none⟩)])∧w'=(w.alloc (.cells #[.pointer (some ⟨fb,0,none⟩)] 282)).alloc (.cells #[.int .i64 (i:Nat)] 3):=by
 go_enter Tryz.func260,Tryz.ntmps260;go_wp2;go_ret;exact ⟨by simp,rfl⟩
theorem Row.keep {w w':World} {e:TypeId} {size:Nat} {v:Value} {n:Nat} {xs:List Value} {ks:List Nat} (h:Row w e size v n xs) (hk:Keep ks w w') (hv : ∀ k,v.ownBlock=some k→k∈ks):Row w' e size v n xs:=by
 refine ⟨h.1,?_⟩;rcases h.2 with h2 | ⟨g,cap,cur,e1,hb,hg,hr⟩
 · exact .inl h2
 · exact .inr ⟨g,cap,cur,e1,hb,(hk.2 g (hv g (by rw [e1]; rfl))).trans hg,hr⟩
theorem FinR.keep {w w':World} {fb mb:Nat} {S:ByteArray} {v:Value} {m:Nat} {D:Int} {ks:List Nat} (h:FinR w fb mb S v m D) (hk:Keep ks w w') (hf:fb∈ks) (hv : ∀ k,v.ownBlock=some k→k∈ks):FinR w' fb mb S v m D:=by
 obtain ⟨a,⟨xs,c1,c2,c3⟩,d⟩:=h;exact ⟨(hk.2 fb hf).trans a,⟨xs,c1,c2,c3.keep hk hv⟩,d⟩
end Go.Proofs.YtfkenhihcmmgkaaGreatDoor
namespace Go.Proofs.YtfkenhihcmmgkaaGreatDoor
open Go.RowKit
def vN (ops:Array Oper):Bool:=ops.all fun o=>match o.op with | .defer _=>false | _=>true
theorem YP {ops:Array Oper} (h:vN ops=true) {i:Nat} {o:Oper} (hi:ops[i]? =some o) : ∀ c,o.op ≠ .defer c:=by
 intro c e;unfold vN at h;rw [Array.all_eq_true] at h;obtain ⟨hl,hg⟩:=Array.getElem?_eq_some_iff.1 hi;have:=h i hl;rw [hg,e] at this;cases this
theorem zeB {n l:Nat} {P:Program} {row:String} {args:Array Value} {w:World} {R:Value→World→Prop} (h:Rows P row args w R):RowsIn (Fence.wide.inRound l) n P row args w R:=by
 intro c cs _;obtain ⟨v,w',hr,hs⟩:=h c cs;refine ⟨v,w',hr,?_⟩;rw [fenced_inRound];exact stepsIn_wide.2 hs
theorem zic {n l:Nat} {P:Program} {o:Oper} {a:Act} {w:World} {K:Act→World→Prop} {Q:Exit→Act→World→Prop} (hd : ∀ c,o.op ≠ .defer c) (h:o.wp P a w K Q):o.wpIn (Fence.wide.inRound l) n P a w K Q:=by
 refine ⟨fun _ _=>trivial,?_⟩;rw [Oper.semAt_eq _ _ _ hd];unfold Oper.wp at h;generalize (execOp a.eval o).run P w=r at h ⊢;cases r with
 | ok x w' =>
   cases x with
   | value v=>exact h
   | skip=>exact h
   | defer d=>exact h
   | enter f args=>exact ⟨fun e=>by simp [Fence.inRound,Fence.wide] at e,CallsIn.inRound l ((callsIn_wide.2 h).mono fun e w'' he=>by cases e<;>exact he)⟩
   | row r args=>exact ⟨fun e=>by simp [Fence.inRound,Fence.wide] at e,zeB h⟩
   | _=>exact h.elim
 | halt x w'=>cases x<;>exact h
theorem ze5 {n l:Nat} {P:Program} {ops:Array Oper} {Q:Exit→Act→World→Prop} (hno : ¬ LetsOut Q) (hd:vN ops=true) {i:Nat} {K:Act→World→Prop} {a:Act} {w:World} (h:wpOp P ops Q i K a w):wpOpIn (Fence.wide.inRound l) n P ops Q i K a w:=by
 unfold wpOp at h;unfold wpOpIn;cases hi:ops[i]? with
 | none=>rw [hi] at h; exact h
 | some o =>
   rw [hi] at h;simp only at h ⊢;by_cases hw:Region.wanted o (yielded ops a.tmps)=true
   · rw [if_pos hw] at h ⊢;rcases h with h | h
     · exact zic (YP hd hi) h
     · exact absurd h.2 hno
   · rw [if_neg hw] at h ⊢;exact ⟨fun _ _=>trivial,h⟩
theorem Xo {n l:Nat} {P:Program} {md:Region.Mode} {ops:Array Oper} {Q:Exit→Act→World→Prop} (hno : ¬ LetsOut Q) (hd:vN ops=true) : ∀ (fuel:Nat) (listed:Array Bool) (a:Act) (w:World),wpAny P md ops Q fuel listed a w→wpAnyIn (Fence.wide.inRound l) n P md ops Q fuel listed a w
 | 0,_,_,_,h=>h
 | fuel+1,listed,a,w,h=>⟨h.1,fun i hi=>wpOpIn_mono (fun a' w' h'=>Xo hno hd fuel _ a' w' h') (ze5 hno hd (h.2 i hi))⟩
theorem Vb {n l id:Nat} {P:Program} {ops:Array Oper} {Q:Exit→Act→World→Prop} {S:World→Prop} {a:Act} {w:World} (hm:P.follows .mixedOrders=true) (hd:vN ops=true) (hS:S w.drew)
 (h:S w.drew → ∀ K:Act→World→Prop,(∀ a w,Q .normal a w→K a w)→wpAnyH P .any ops (Exit.then K fun _ _ _=>False) S ops.size (Array.replicate ops.size false) a w.drew):(Code.region id ops true).wpIn (Fence.wide.inRound l) n P Q a w:=by
 refine wpIn_mono (wpIn_region_any hm (Xo ?_ hd _ _ _ _ (wpAny_of_held _ _ _ _ (h hS (fun a w=>Q .normal a w) fun _ _ h=>h)))) ?_
 · rintro ⟨a,w,h⟩;exact h
 · intro e a w h;cases e<;>first | exact h | exact h.elim
end Go.Proofs.YtfkenhihcmmgkaaGreatDoor
namespace Go.Proofs.YtfkenhihcmmgkaaGreatDoor
open Go.RowKit Go.Shelf
attribute [local go_sem] Oper.semAt_some
def CopyT (S:ByteArray) (i:Nat) (L B:Int):Prop:=(L=0∧B=0) ∨ ∃ m b:Nat,L=(m:Int)∧B=(b:Int)∧1≤m∧b≤32768∧zkx S i b m
theorem CopyT.bd {S:ByteArray} {i:Nat} {L B:Int} (h:CopyT S i L B):0≤L∧L≤258∧0≤B∧B≤32768:=by
 rcases h with ⟨rfl,rfl⟩ | ⟨m,b,rfl,rfl,h1,h2,h3⟩
 · omega
 · have:=h3.2.2.1; omega
def TkB (S:ByteArray) (i tb:Nat) (W:World):Prop := ∃ L B,CopyT S i L B∧Blk W tb [.int .u8 0,.int .i64 L,.int .i64 B] 287
def BeI (S:ByteArray) (fb mb:Nat) (v:Value) (m:Nat) (D:Int) (i:Nat) (w:World) (b2 b3 tb:Nat) (W:World):Prop :=
 TkB S i tb W∧FinAt W fb mb S v m D∧Blk W b2 [.pointer (some ⟨fb,0,none⟩)] 282∧Blk W b3 [.int .i64 (i:Nat)] 3∧Upd [] w W
theorem FinAt.grown {w w':World} {fb mb B:Nat} {S:ByteArray} {v:Value} {m:Nat} {D:Int} {row:Option Nat} (h:FinAt w fb mb S v m D) (hmb:mb<B) (hg:w.grownBy w' row) (hr : ∀ r,row=some r→B≤r ∧ ∃ o:Obj,w.heap[r]? =some o∧o.isCells=false):FinAt w' fb mb S v m D:=by
 obtain ⟨⟨a,⟨xs,c1,c2,c3⟩,d⟩,n,hn,⟨DD,e1,e2⟩⟩:=h;exact ⟨⟨zF B fb (fun (_:Unit)=>_) _ () w w' row a hg hr,⟨xs,c1,c2,c3.ownF hg hr⟩,d⟩,n,hn,⟨DD,e1.kept hg (fun e=>by have:=(hr mb e.symm).1; omega),e2⟩⟩
theorem BeI.own {S:ByteArray} {fb mb:Nat} {v:Value} {m:Nat} {D:Int} {i:Nat} {w:World} {b2 b3 tb BB:Nat} (hB:w.heap.size≤BB) (hmb:mb<BB):OwnFrom BB (fun (_:List Nat) W=>BeI S fb mb v m D i w b2 b3 tb W):=fun p X C row hs hgr hr=>by
 obtain ⟨⟨L,B,h0,h1⟩,h2,h3,h4,h5⟩:=hs;exact ⟨⟨L,B,h0,zF BB tb (fun (_:Unit)=>_) _ () X C row h1 hgr hr⟩,h2.grown hmb hgr hr,zF BB b2 (fun (_:Unit)=>_) _ () X C row h3 hgr hr,zF BB b3 (fun (_:Unit)=>_) _ () X C row h4 hgr hr,qa BB [] w hB () X C row h5 hgr hr⟩
theorem BeI.pure {S:ByteArray} {fb mb:Nat} {v:Value} {m:Nat} {D:Int} {i:Nat} {w:World} {b2 b3 tb:Nat} {X C:World} (hs:BeI S fb mb v m D i w b2 b3 tb X) (h:Upd [] X C):BeI S fb mb v m D i w b2 b3 tb C:=by
 obtain ⟨⟨L,B,h0,h1⟩,h2,h3,h4,h5⟩:=hs;exact ⟨⟨L,B,h0,h1.upd h (by simp)⟩,h2.pure h,h3.upd h (by simp),h4.upd h (by simp),h5.then h⟩
theorem Upd.putObjZ {fp:List Nat} {a w:World} (h:Upd fp a w) {D:Nat} (hD:a.heap.size≤D) (o:Obj):Upd fp a (w.putObj D o):=h.grown (grownBy_putObj' w D o) (fun k e=>by cases e; exact .inr hD)
theorem zbe {fn:Func} {p:Tmp} (h:fn.results = #[.cell p 287]) (tmps:Array Value) (w:World) (g:Nat) (x y z:Value) (hp:tmps.getD p undef = .pointer (some ⟨g,0,none⟩)) (hB:Blk w g [x,y,z] 287) :
 (results fn tmps).run Tryz.prog w = .ok (.agg #[x,y,z]) w:=by
 have hc0:=hB.cell 0 rfl;have hc1:=hB.cell 1 rfl;have hc2:=hB.cell 2 rfl;have hp2:tmps[p]?.getD undef = .pointer (some ⟨g,0,none⟩):=by rw [← hp]; simp
 simp [results,h,go_sem,hp2,hc0,hc1,hc2]
theorem zdC {P:Program} {c:Code} {Q:Exit→Act→World→Prop} {a:Act} {w:World} (h : ∀ fr,fr=a→c.wp P Q fr w):c.wp P Q a w:=h a rfl
end Go.Proofs.YtfkenhihcmmgkaaGreatDoor
namespace Go.Proofs.YtfkenhihcmmgkaaGreatDoor
open Go.RowKit
attribute [local go_sem] Oper.semAt_some
def tcs (l:List Tok):List Value:=l.flatMap Tok.cs
theorem YF (t:Tok) (l:List Tok):tcs (t::l)=t.cs++tcs l:=rfl
theorem Wj : ∀ l:List Tok,(tcs l).length=l.length*3
 | []=>rfl
 | t::l=>by rw [YF,List.length_append,Wj l,List.length_cons]; show 3+_=_; omega
theorem YN : ∀ (l:List Tok) (i:Nat) (h:i<l.length) (r:Nat),r<3→(tcs l)[i*3+r]? =(l[i].cs)[r]?
 | [],i,h,_,_=>by simp at h
 | t::l,0,h,r,hr=>by
   rw [YF,List.getElem?_append_left (by show _<3; omega)];simp
 | t::l,i+1,h,r,hr=>by
   rw [YF,List.getElem?_append_right (by show 3≤_; omega)];have:=YN l i (by simpa using h) r hr;rw [show (i+1)*3+r-t.cs.length=i*3+r by show _-3=_; omega,this];rfl
def Fit (l:List Tok):Prop := ∀ t∈l,t.byte<256∧(-9223372036854775808≤t.long∧t.long≤9223372036854775807)∧(-9223372036854775808≤t.back∧t.back≤9223372036854775807)
theorem TokIn.fit {w:World} {a:Option Addr} {n:Nat} {l:List Tok} (h:TokIn w a n l):Fit l:=fun t ht=>by
 obtain ⟨i,hi,rfl⟩:=List.getElem_of_mem ht;obtain ⟨b,off,_,_,r⟩:=h.cell i hi;exact r
theorem TokIn.cells {w:World} {a:Option Addr} {n:Nat} {l:List Tok} (h:TokIn w a n l) (b off:Nat) (ha:a=some ⟨b,off,none⟩) : ∀ j u,(tcs l)[j]? =some u→w.cell? ⟨b,off+j,none⟩=some u:=fun j u hu=>by
 obtain ⟨hj,_⟩:=List.getElem?_eq_some_iff.1 hu;rw [Wj] at hj;have hi:j/3<l.length:=by omega
 have hr:j%3<3:=by omega
 have e:j=j/3*3+j%3:=by omega
 obtain ⟨b',off',e',⟨c1,c2,c3⟩,_⟩:=h.cell (j/3) hi;rw [ha] at e';cases e';rw [e,YN l _ hi _ hr] at hu;obtain hr | hr | hr:j%3=0∨j%3=1∨j%3=2:=by omega
 all_goals (rw [hr] at hu; simp [Tok.cs] at hu; subst hu)
 · exact (congrArg (fun k=>w.cell? ⟨b,k,none⟩) (by omega:off+j=off+j/3*3)).trans c1
 · exact (congrArg (fun k=>w.cell? ⟨b,k,none⟩) (by omega:off+j=off+j/3*3+1)).trans c2
 · exact (congrArg (fun k=>w.cell? ⟨b,k,none⟩) (by omega:off+j=off+j/3*3+2)).trans c3
theorem TokIn.of_row {w:World} {v:Value} {n:Nat} {l:List Tok} (h:Row w 287 3 v n (tcs l)) (hf:Fit l) : ∃ a c,v = .slice a n c∧TokIn w a n l∧(∀ b off,a=some ⟨b,off,none⟩→v.ownBlock=some b)∧((a=none∧n=0∧c=0) ∨ ∃ g o,a=some ⟨g,o,none⟩)∧n≤c:=by
 have hl:l.length=n:=by have:=h.1; rw [Wj] at this; omega
 have hI : ∀ a c,v = .slice a n c→TokIn w a n l:=fun a c hv=>⟨hl,fun i hi=>by
  subst hv;obtain ⟨g,cc,e,_,_⟩:=h.form' (by omega);cases e;have hx:=hf _ (List.getElem_mem hi);refine ⟨g,0,rfl,⟨?_,?_,?_⟩,hx⟩
  · have:=h.cell (i*3+0) (by rw [YN l i hi 0 (by omega)]; rfl); rw [Nat.zero_add]; exact this
  · have:=h.cell (i*3+1) (by rw [YN l i hi 1 (by omega)]; rfl); rw [Nat.zero_add]; exact this
  · have:=h.cell (i*3+2) (by rw [YN l i hi 2 (by omega)]; rfl); rw [Nat.zero_add]; exact this⟩
 rcases h.2 with ⟨hv,h0⟩ | ⟨g,cap,cur,hv,hb,hg,hc,_⟩
 · subst h0;exact ⟨none,0,hv,hI _ _ hv,(fun b off e=>by cases e),.inl ⟨rfl,rfl,rfl⟩,Nat.le_refl _⟩
 · exact ⟨_,cap,hv,hI _ _ hv,(fun b off e=>by cases e; rw [hv]; rfl),.inr ⟨g,0,rfl⟩,hc⟩
theorem zio:(Tryz.prog.info? 287).map (fun i=>(i.zero,i.size,i.bytes))=some (some (.agg #[.int .u8 0,.int .i64 0,.int .i64 0]),3,24):=by kernel_rfl
end Go.Proofs.YtfkenhihcmmgkaaGreatDoor
