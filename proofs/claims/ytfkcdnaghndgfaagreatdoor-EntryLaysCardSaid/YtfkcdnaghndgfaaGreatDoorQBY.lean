/- What is written in blocks is read as the tokens' bytes (plain). -/
import Derived.Test.YtfkcdnaghndgfaaGreatDoorQBX
import Derived.Test.YtfkcdnaghndgfaaGreatDoorQBU
import Derived.Test.YtfkcdnaghndgfaaGreatDoorLzM
import Derived.Test.YtfkcdnaghndgfaaGreatDoorQBW
import Derived.Test.YtfkcdnaghndgfaaGreatDoorQAN
import Derived.Test.YtfkcdnaghndgfaaGreatDoorQAZ
import Derived.Test.YtfkcdnaghndgfaaGreatDoorQAR
set_option linter.unusedVariables false
set_option linter.unusedSimpArgs false
set_option linter.unusedSectionVars false
namespace Go.Proofs.YtfkcdnaghndgfaaGreatDoor
theorem StandsAt.pre {A M T:List Bool} (h:A++M <+: T):StandsAt T A.length M:=by
 obtain ⟨B,rfl⟩:=h
 exact StandsAt.mk' A M B
theorem zaX : ∀ (l:List Tok) (out r:List Nat),xJ l=0→zL l out=some r→r=out++zQ l
 | [],out,r,_,h=>by
   have:out=r:=by simpa [zL] using h
   rw [← this]
   simp [zQ]
 | t::l,out,r,hf,h=>by
   have h0:t.long=0:=by
    unfold xJ at hf
    rw [List.countP_cons] at hf
    by_cases e:t.long=0
    · exact e
    · simp [e] at hf
   have hf2:xJ l=0:=by
    unfold xJ at *
    rw [List.countP_cons] at hf
    omega
   rw [yr,if_pos h0] at h
   split at h
   · cases h
   · rw [zaX l _ r hf2 h]
     unfold zQ
     rw [List.map_cons,List.append_assoc]
     rfl
theorem KY : ∀ (l m:List Tok) (out:List Nat),zL (l++m) out=(zL l out).bind (zL m)
 | [],m,out=>rfl
 | t::l,m,out=>by
   rw [List.cons_append,yr,yr]
   split
   · split
     · rfl
     · exact KY l m _
   · split
     · rfl
     · exact KY l m _
theorem zaF {H T:List Bool} {bs out:List Nat} {most:Nat} (hb : ∀ x∈bs,x<256) (hn:bs.length≤65535) (hm:out.length+bs.length≤most) (hT:qc H bs <+: T) :
 JB (yw T) most out H.length = .ok (out++bs,(qc H bs).length):=by
 have hal:Jq H.length false=(zO H).length:=by rw [zT]; rfl
 have p1:zO H++low 16 bs.length <+: T:=List.IsPrefix.trans ⟨low 16 (65535-bs.length)++zn bs,by unfold qc; simp only [List.append_assoc]⟩ hT
 have p2:(zO H++low 16 bs.length)++low 16 (65535-bs.length) <+: T:=List.IsPrefix.trans ⟨zn bs,by unfold qc; rfl⟩ hT
 have e1:=qj (StandsAt.pre p1) (by omega)
 have e2:=qj (StandsAt.pre p2) (by omega)
 obtain ⟨X,hX⟩ : ∃ X,zO H++low 16 bs.length++low 16 (65535-bs.length)=X:=⟨_,rfl⟩
 have hX8:X.length%8=0:=by rw [← hX,List.length_append,List.length_append,ze,ze,zT]; omega
 have hXl:X.length=(zO H).length+16+16:=by rw [← hX,List.length_append,List.length_append,ze,ze]
 have hst:qc H bs=X++zn bs:=by unfold qc; rw [hX]
 have hsz:(zd bs).size=bs.length:=zo bs
 have p3:zO X++zn (za (zd bs)) <+: T:=by rw [Jb X hX8,zx bs hb,← hst]; exact hT
 obtain ⟨r1,r2,r3⟩:=zeG p3
 rw [hsz] at r1 r2 r3
 unfold JB
 rw [hal,qF e1]
 dsimp only
 rw [List.length_append,ze] at e2
 rw [qF e2]
 unfold ql
 dsimp only
 rw [show (zO H).length+16+16=X.length from hXl.symm]
 rw [if_pos rfl]
 show (if qd (zd (pack T)) X.length false (bs.length:Int)=true then _ else _)=_
 rw [r1,if_neg (by simp),if_pos hm]
 show Except.ok (out++za (qv (zd (pack T)) X.length false (bs.length:Int)),ve (zd (pack T)) X.length false (bs.length:Int))=_
 rw [r2,r3,zx bs hb,Jb X hX8,← hst]
theorem Qy {na nb:List Nat} : ∀ (l:List Tok),Coded na nb l→l.length<(qh na nb l).length
 | [],h=>by
   show 0<(zs na 256).length
   rw [zJ]
   have:=h.fin
   omega
 | t::l,h=>by
   have ih:=Qy l ⟨h.fin,fun u hu=>h.lit u (List.mem_cons_of_mem _ hu),fun u hu=>h.bak u (List.mem_cons_of_mem _ hu)⟩
   have h1:=h.lit t List.mem_cons_self
   show l.length+1<(ki na nb t++qh na nb l).length
   have h2:1≤(ki na nb t).length:=by
    unfold ki
    split
    · rename_i h0
      rw [zJ]
      unfold xw at h1
      rw [if_pos h0] at h1
      omega
    · rw [List.length_append,zJ]
      omega
   rw [List.length_append]
   omega
theorem zfu {L T:List Bool} {k:Nat} {last:Bool} (hk:k≤2) (hT:yk L k last <+: T) :
 zy (yw T) L.length 1 = .ok ((if last then 1 else 0),L.length+1)∧zy (yw T) (L.length+1) 2 = .ok (k,L.length+1+2)∧(yk L k last).length=L.length+1+2:=by
 have p1:L++low 1 (if last then 1 else 0) <+: T:=List.IsPrefix.trans ⟨low 2 k,rfl⟩ hT
 have e1:=qj (StandsAt.pre p1) (by split<;>omega)
 have e2:=qj (StandsAt.pre (A:=L++low 1 (if last then 1 else 0)) hT) (by omega)
 rw [List.length_append,ze] at e2
 refine ⟨e1,e2,?_⟩
 unfold yk
 rw [List.length_append,List.length_append,ze,ze]
theorem Jg {α β:Type} {x:Except Nat α} {v:α} (h:x = .ok v) (f:α→Except Nat β):(x >>= f)=f v:=by rw [h]; rfl
theorem Xf {L M T:List Bool} {l:List Tok} {k most F:Nat} {last:Bool} {out r:List Nat} (hB:qe L l k last M) (hk0:k=0→xJ l=0∧l.length≤65535) (hok : ∀ t∈l,zr t)
 (he:zL l out=some r) (hm:r.length≤most) (hF:k≠0→l.length<F) (hT:M <+: T):Kj (yw T) most F out L.length = .ok ((last,r),M.length):=by
 have hml:(zk l).1.length=286∧(zk l).2.length=30:=by have:=xt l l.length (Nat.le_refl _); rw [List.take_length] at this; exact ⟨this.la,this.lb⟩
 have hk2:k≤2:=by rcases hB with h | h | h<;>omega
 have hpre:yk L k last <+: M:=by
  rcases hB with ⟨h,e⟩ | ⟨h,e⟩ | ⟨h,lits,backs,steps,lens,t,_,_,e⟩
  · rw [e,h]
    exact ⟨List.replicate ((8-(yk L 0 last).length%8)%8) false++(low 16 (zQ l).length++(low 16 (65535-(zQ l).length)++zn (zQ l))),by unfold qc zO; simp only [List.append_assoc]⟩
  · rw [e,h]; exact ⟨_,rfl⟩
  · rw [e,h]; exact ⟨vm lits.length backs.length t lens steps++qh lits backs l,by simp only [List.append_assoc]⟩
 obtain ⟨t1,t2,t3⟩:=zfu hk2 (hpre.trans hT)
 have hkind:qr (yw T) most F out (k,L.length+1+2) = .ok (r,M.length):=by
  rw [← t3]
  unfold qr
  dsimp only
  rcases hB with ⟨h,e⟩ | ⟨h,e⟩ | ⟨h,lits,backs,steps,lens,t,hMd,hTo,e⟩
  · subst h
    obtain ⟨f0,f1⟩:=hk0 rfl
    have hr:=zaX l out r f0 he
    rw [if_pos rfl,e,hr]
    have hbl:(zQ l).length=l.length:=List.length_map _
    have hb : ∀ x∈zQ l,x<256:=fun x hx=>by
     obtain ⟨t,ht,rfl⟩:=List.mem_map.1 hx
     have:=hok t ht
     unfold zr at this
     omega
    rw [hr,List.length_append] at hm
    exact zaF hb (by omega) hm (by rw [← e]; exact hT)
  · subst h
    have hp:=XN l hok
    rw [if_neg (by omega),if_pos rfl]
    have hs:StandsAt T (yk L 1 last).length (qh (yT 4) (List.replicate 32 5) l):=StandsAt.pre (by rw [← e]; exact hT)
    have:=Jc (yT 4) (List.replicate 32 5) ⟨hp.a3,hp.a0⟩ most T l out r _ F hok hp.coded (fun h=>⟨hp.b3,hp.b0 h⟩) he hm (hF (by omega)) hs
    show xH ZF Yy (yw T) most F out (yk L 1 last).length=_
    unfold ZF Yy
    rw [this,e,List.length_append]
  · subst h
    have hp:=hMd.plan hml hok
    rw [if_neg (by omega),if_neg (by omega),if_pos rfl]
    have hs1:StandsAt T (yk L 2 last).length (vm lits.length backs.length t lens steps):=StandsAt.pre (List.IsPrefix.trans ⟨qh lits backs l,by rw [e]⟩ hT)
    have hs2:StandsAt T (yk L 2 last++vm lits.length backs.length t lens steps).length (qh lits backs l):=StandsAt.pre (by rw [← e]; exact hT)
    rw [List.length_append] at hs2
    have h1:=zbj hMd hTo hml hok hs1
    have h2:=Jc lits backs ⟨hp.a3,hp.a0⟩ most T l out r _ F hok hp.coded (fun h=>⟨hp.b3,hp.b0 h⟩) he hm (hF (by omega)) hs2
    rw [Jg h1]
    show xH (ints lits) (ints backs) (yw T) most F out ((yk L 2 last).length+(vm lits.length backs.length t lens steps).length)=_
    rw [h2,e,List.length_append,List.length_append]
 unfold Kj
 rw [Jg t1]
 dsimp only
 rw [Jg t2,Jg hkind]
 unfold zgx
 dsimp only
 cases last<;>rfl
theorem ju {L M:List Bool} {l:List Tok} {k:Nat} {last:Bool} (hB:qe L l k last M) (hok : ∀ t∈l,zr t):L.length+3≤M.length∧(k≠0→L.length+3+l.length<M.length):=by
 have hml:(zk l).1.length=286∧(zk l).2.length=30:=by have:=xt l l.length (Nat.le_refl _); rw [List.take_length] at this; exact ⟨this.la,this.lb⟩
 have hh : ∀ j,(yk L j last).length=L.length+3:=fun j=>by unfold yk; rw [List.length_append,List.length_append,ze,ze]
 rcases hB with ⟨h,e⟩ | ⟨h,e⟩ | ⟨h,lits,backs,steps,lens,t,hMd,hTo,e⟩
 · refine ⟨?_,fun h2=>absurd h h2⟩
   rw [e]
   unfold qc
   rw [List.length_append,List.length_append,List.length_append,zT,hh]
   omega
 · have hp:=XN l hok
   have:=Qy l hp.coded
   rw [e,List.length_append,hh]
   exact ⟨by omega,fun _=>by omega⟩
 · have hp:=hMd.plan hml hok
   have:=Qy l hp.coded
   rw [e,List.length_append,List.length_append,hh]
   exact ⟨by omega,fun _=>by omega⟩
def vh:List Bool→List (List Tok×Nat)→List Bool→Prop
 | _,[],_=>False
 | L,[b],M=>qe L b.1 b.2 true M
 | L,b::c::r,M => ∃ N,qe L b.1 b.2 false N∧vh N (c::r) M
theorem Xq : ∀ (bs:List (List Tok×Nat)) (L M:List Bool),vh L bs M→(∀ b∈bs,∀ t∈b.1,zr t)→L.length<M.length
 | [b],L,M,h,hok=>by have:=(ju h (hok b List.mem_cons_self)).1; omega
 | b::c::r,L,M,⟨N,h1,h2⟩,hok=>by
   have:=(ju h1 (hok b List.mem_cons_self)).1
   have:=Xq (c::r) N M h2 (fun x hx=>hok x (List.mem_cons_of_mem _ hx))
   omega
theorem Zu {L M:List Bool} {l:List Tok} {k:Nat} {last:Bool} (hB:qe L l k last M):L <+: M:=by
 have hh : ∀ j,L <+: yk L j last:=fun j=>⟨low 1 (if last then 1 else 0)++low 2 j,by unfold yk; simp only [List.append_assoc]⟩
 rcases hB with ⟨h,e⟩ | ⟨h,e⟩ | ⟨h,lits,backs,steps,lens,t,_,_,e⟩
 · rw [e]
   exact (hh 0).trans ⟨List.replicate ((8-(yk L 0 last).length%8)%8) false++(low 16 (zQ l).length++(low 16 (65535-(zQ l).length)++zn (zQ l))),by unfold qc zO; simp only [List.append_assoc]⟩
 · rw [e]; exact (hh 1).trans ⟨_,rfl⟩
 · rw [e]; exact (hh 2).trans ⟨vm lits.length backs.length t lens steps++qh lits backs l,by simp only [List.append_assoc]⟩
theorem Zt : ∀ (bs:List (List Tok×Nat)) (L M:List Bool),vh L bs M→L <+: M
 | [b],L,M,h=>Zu h
 | b::c::r,L,M,⟨N,h1,h2⟩=>(Zu h1).trans (Zt (c::r) N M h2)
theorem Va (most F:Nat) (T:List Bool) : ∀ (bs:List (List Tok×Nat)) (L M:List Bool) (out r:List Nat) (g:Nat),vh L bs M→(∀ b∈bs,(∀ t∈b.1,zr t)∧(b.2=0→xJ b.1=0∧b.1.length≤65535)) →
 zL (bs.flatMap Prod.fst) out=some r→r.length≤most→M.length≤F→M <+: T→bs.length≤g→qY (yw T) most F g out L.length = .ok (r,M.length)
 | [b],L,M,out,r,g+1,hB,hok,he,hm,hF,hT,hg=>by
   have hb:=hok b List.mem_cons_self
   have hl:=ju hB hb.1
   have he2:zL b.1 out=some r:=by simpa using he
   have h:=Xf (F:=F) hB hb.2 hb.1 he2 hm (fun h=>by have:=hl.2 h; omega) hT
   unfold qY
   rw [Jg h]
   rfl
 | b::c::rs,L,M,out,r,g+1,⟨N,h1,h2⟩,hok,he,hm,hF,hT,hg=>by
   have hb:=hok b List.mem_cons_self
   have hl:=ju h1 hb.1
   have hNM:=Xq (c::rs) N M h2 (fun x hx=>(hok x (List.mem_cons_of_mem _ hx)).1)
   rw [List.flatMap_cons,KY] at he
   obtain ⟨m,hm1,hm2⟩:=Option.bind_eq_some_iff.1 he
   have hle:=Jp _ _ _ hm2
   have h:=Xf (F:=F) (most:=most) h1 hb.2 hb.1 hm1 (by omega) (fun h=>by have:=hl.2 h; omega) ((Zt (c::rs) N M h2).trans hT)
   have ih:=Va most F T (c::rs) N M m r g h2 (fun x hx=>hok x (List.mem_cons_of_mem _ hx)) hm2 hm hF hT (by simpa using hg)
   unfold qY
   rw [Jg h]
   show qY (yw T) most F g m N.length=_
   exact ih
theorem ZV : ∀ (bs:List (List Tok×Nat)) (L M:List Bool),vh L bs M→(∀ b∈bs,∀ t∈b.1,zr t)→bs.length+L.length≤M.length
 | [b],L,M,h,hok=>by have:=(ju h (hok b List.mem_cons_self)).1; simp; omega
 | b::c::r,L,M,⟨N,h1,h2⟩,hok=>by
   have h3:=(ju h1 (hok b List.mem_cons_self)).1
   have h4:=ZV (c::r) N M h2 (fun x hx=>hok x (List.mem_cons_of_mem _ hx))
   simp only [List.length_cons] at h4 ⊢
   omega
theorem zhG (most:Int) (bs:List (List Tok×Nat)) (M:List Bool) (r:List Nat) (hB:vh [] bs M) (hok : ∀ b∈bs,(∀ t∈b.1,zr t)∧(b.2=0→xJ b.1=0∧b.1.length≤65535))
 (he:zL (bs.flatMap Prod.fst) []=some r) (hm:r.length≤XQ most):ofP (yw M) most = .ok (r,M.length):=by
 have hn:=ZV bs [] M hB (fun b hb=>(hok b hb).1)
 have hs:M.length≤8*(yw M).size:=by unfold yw; rw [jt]; omega
 unfold ofP
 exact Va _ _ M bs [] M [] r _ hB hok he hm (by omega) (List.prefix_refl _) (by simp at hn; omega)
end Go.Proofs.YtfkcdnaghndgfaaGreatDoor
namespace Go.Proofs.YtfkcdnaghndgfaaGreatDoor
open Go.RowKit
theorem RT.blocks {bs:List Nat} {l:List Tok} {KK:List Tok→Nat→Prop} (hok : ∀ t∈l,zr t) (hb : ∀ b∈bs,b<256) (hbs:bs.length≤65000) (he:zL l []=some bs) {q:Nat} {L:List Bool} (h:RT bs l KK q L) :
 ∃ p:List (List Tok×Nat),(∀ b∈p,(∀ t∈b.1,zr t)∧(b.2=0→xJ b.1=0∧b.1.length≤65535))∧zL (p.flatMap Prod.fst) []=some (bs.take (zZ l q)) ∧
  (q<zY l.length → ∀ r M,vh L r M→vh [] (p++r) M)∧(q=zY l.length→0<q→vh [] p L):=by
 induction h with
 | zero=>exact ⟨[],by simp,by simp [zZ,zq,zL],fun _ r M hr=>hr,fun _ h=>by omega⟩
 | @succ q k L M h hK hk hB ih =>
   obtain ⟨p,h1,h2,h3,h4⟩:=ih
   refine ⟨p++[(kh bs l q k,k)],?_,?_,?_,?_⟩
   · intro b hbm
     rcases List.mem_append.1 hbm with hbm | hbm
     · exact h1 b hbm
     · rw [List.mem_singleton] at hbm
       subst hbm
       refine ⟨zdo hok hb q k,fun h0=>⟨?_,Nat.le_trans (zag hbs q k) (by omega)⟩⟩
       have h0':k=0:=h0
       show xJ (kh bs l q k)=0
       unfold kh
       rw [if_pos h0']
       exact vQ _
   · rw [List.flatMap_append,xc,h2]
     have e:[(kh bs l q k,k)].flatMap Prod.fst=kh bs l q k:=by simp
     rw [e]
     exact zid hok he hbs q k
   · intro hq r M' hr
     rw [List.append_assoc]
     refine h3 (by omega) _ _ ?_
     rw [decide_eq_false (by omega)] at hB
     cases r with
     | nil=>exact hr.elim
     | cons c r=>exact ⟨M,hB,hr⟩
   · intro hq _
     rw [decide_eq_true hq] at hB
     exact h3 (by omega) [(kh bs l q k,k)] M hB
theorem QO (n:Nat):0<zY n:=by unfold zY; split<;>omega
theorem Vv (l:List Tok):zZ l (zY l.length)=zq l:=by
 unfold zZ
 rw [List.take_of_length_le]
 unfold zY
 split<;>omega
theorem zeX {bs:List Nat} {l:List Tok} {KK:List Tok→Nat→Prop} (hok : ∀ t∈l,zr t) (hb : ∀ b∈bs,b<256) (hbs:bs.length≤65000) (he:zL l []=some bs) {M:List Bool} (h:RT bs l KK (zY l.length) M) (most:Int) (hm:bs.length≤XQ most):ofP (yw M) most = .ok (bs,M.length):=by
 obtain ⟨p,h1,h2,_,h4⟩:=h.blocks hok hb hbs he
 have hl:=jH l [] bs hok he
 rw [List.length_nil,Nat.zero_add] at hl
 rw [Vv,← hl,List.take_length] at h2
 exact zhG most p M bs (h4 rfl (QO _)) h1 h2 hm
end Go.Proofs.YtfkcdnaghndgfaaGreatDoor
namespace Go.Proofs.YtfkcdnaghndgfaaGreatDoor
open Go.RowKit
attribute [local go_sem] Oper.semAt_some
theorem Row.cap {w:World} {e:TypeId} {size n n' c:Nat} {a:Option Addr} {xs:List Value} (h:Row w e size (.slice a n' c) n xs):c≤9223372036854775807:=by
 rcases h.2 with ⟨hv,h0⟩ | ⟨g,cap,cur,hv,hb,hg,hc,hm,_⟩
 · cases hv; omega
 · cases hv; unfold maxLen at hm; omega
theorem zii {S:ByteArray} {l:List Tok} {KK:List Tok→Nat→Prop} (hS:S.size≤65000) (hok : ∀ t∈l,zr t) (he:zL l []=some (za S)) {M:List Bool} (h:RT (za S) l KK (zY l.length) M):BackP S (zd (pack M)):=fun most hm =>
 .inr ⟨M.length,zeX hok (zP S) (by rw [zc]; exact hS) he h most (by rw [zc]; exact hm),(jt M).symm⟩
theorem zbn {a b:Nat} (h:a≤b):zY a≤zY b:=by unfold zY; split<;>split<;>omega
def zjI (S:ByteArray) (w:World) (e:Ending) (w':World):Prop := ∃ X:ByteArray,e = .returned (.string X)∧BackP S X∧X.size≤S.size+6*zY S.size∧(S.size≤8000→X.size≤S.size+5)∧Upd [] w w'
theorem WH {S:ByteArray} {l:List Tok} (hok : ∀ t∈l,zr t) (he:zL l []=some (za S)):S.size=zq l:=by
 have h:=jH l [] _ hok he
 rw [zc,List.length_nil,Nat.zero_add] at h
 exact h
theorem zhC {S:ByteArray} {l:List Tok} {M:List Bool} (hS:S.size≤65000) (hok : ∀ t∈l,zr t) (he:zL l []=some (za S)) (hl:l.length≤S.size) (h:RT (za S) l Vs (zY l.length) M) :
 (zd (pack M)).size≤S.size+6*zY S.size∧(S.size≤8000→(zd (pack M)).size≤S.size+5):=by
 have hs:=WH hok he
 have h1:=zgz hok (by rw [zc]; exact hS) h
 rw [Vv] at h1
 have h2:=zbn hl
 have h3:=QO S.size
 have h4:=QO l.length
 rw [jt]
 refine ⟨by omega,fun hx=>?_⟩
 have h5:zY l.length=1:=by
  have:zY S.size=1:=by unfold zY; split<;>omega
  omega
 have:=h1.2 h5
 omega
set_option maxRecDepth 100000 in
set_option maxHeartbeats 3200000 in
theorem zdb (S:ByteArray) (lv:Int) (w:World) (hs:S.size≤65000) (hlv : -9223372036854775808≤lv∧lv≤9223372036854775807) :
 Calls Tryz.prog 20 #[.string S,.int .i64 lv] w fun e w'=>zjI S w e w':=by
 have hsz : ¬ (65000:Int)<(S.size:Int):=by omega
 go_enter Tryz.func20,Tryz.ntmps20
 go_wp2_with fail
 refine (zad S lv _ hs hlv).mono ?_
 rintro e w1 ⟨v,l,rfl,hR,hok,he,hl,hO,hU1⟩
 obtain ⟨a,c,rfl,hT,-,ha,hc⟩:=TokIn.of_row hR (fun t ht=>by
  have:=hok t ht
  unfold zr at this
  omega)
 have HU1:=Lib.hid hU1
 have HE:=Lib.hid he
 have HOK:=Lib.hid hok
 have HL:=Lib.hid hl
 have HLD:=Lib.hid (zfK S l a l.length c 43 Vs w1 hT ha hc hR.cap (WH hok he) hs hok zdV zan)
 clear hU1 hR hO hT ha he hok hl
 go_wp2_with fail
 refine HLD.out.mono ?_
 rintro e w2 ⟨M,hM,rfl,hU2⟩
 have HU2:=Lib.hid (HU1.out.then hU2)
 have HM:=Lib.hid hM
 clear hM hU2 HLD
 go_wp2
 go_ret
 have hd:=zhC hs HOK.out HE.out HL.out HM.out
 exact ⟨_,rfl,zii hs HOK.out HE.out HM.out,hd.1,hd.2,HU2.out⟩
end Go.Proofs.YtfkcdnaghndgfaaGreatDoor
namespace Go.Proofs.YtfkcdnaghndgfaaGreatDoor
open Go.RowKit
theorem zis (p:ByteArray) (k m:Int) (t:Nat) (D:ByteArray) (lv:Int) (w:World) (hp:p.size≤300) (ht:t<4294967296) (hD:D.size≤65000) (hlv : -9223372036854775808≤lv∧lv≤9223372036854775807) :
 Calls Tryz.prog 6 #[.string p,qU k m t D,.int .i64 lv] w fun e w' => ∃ r s,e = .returned (.tuple #[r.v,.string s,.int .i64 (yD p k m t D:Nat)])∧LayP p k m t D r s∧Upd [] w w' :=
 zcZ p k m t D lv w hp ht hD (fun z=>(zdb D lv z hD hlv).mono (fun e w' h=>by
  obtain ⟨X,he,hb,-,-,hu⟩:=h
  exact ⟨X,he,fun _=>hb,hu⟩))
theorem Wm (w:World):Calls Tryz.prog 11 #[] w fun e w'=>e = .returned (.bool true)∧Upd [] w w' :=
 zbG (fun z=>(zdb { data := #[] } 9 z (by decide) (by decide)).mono (fun e w' h=>by
  obtain ⟨X,he,-,-,-,hu⟩:=h
  exact ⟨X,he,hu⟩)) w
end Go.Proofs.YtfkcdnaghndgfaaGreatDoor
namespace Go.Proofs.YtfkcdnaghndgfaaGreatDoor
open Go.RowKit
theorem zec (x:ByteArray):(⟨#[]⟩:ByteArray)++x=x:=by
 apply ByteArray.ext
 simp
theorem zd5 (x:ByteArray):x++(⟨#[]⟩:ByteArray)=x:=by
 apply ByteArray.ext
 simp
theorem zcn {p:ByteArray} {k m:Int} {t:Nat} {D:ByteArray} {r:RecD} {X:ByteArray} (h:LaidE p k m t D r X) (A B:ByteArray) (hA:A.size<2147483648) (hD:D.size≤65000) :
 VG (A++(zd (yx r)++X)++B) (r.to A.size)=(k,m,t,D,0):=by
 unfold VG
 rw [zeh h A B hA hD]
 dsimp only
 rw [if_neg (by simp),show (r.to A.size).k=k from h.hk,show (r.to A.size).md=m from h.hmd]
 by_cases hk:k=1
 · rw [if_pos hk,show (r.to A.size).t=t from (h.file hk).1]
 · rw [if_neg hk,(h.dir hk).2.1]
theorem zbQ {p:ByteArray} {k m:Int} {t:Nat} {D:ByteArray} {r:RecD} {X:ByteArray} (h:LaidE p k m t D r X) (hD:D.size≤65000) :
 VG (zd (yx r)++X) r=(k,m,t,D,0):=by
 have e:=zcn h ⟨#[]⟩ ⟨#[]⟩ (by decide) hD
 rw [zec,zd5] at e
 have hr:r.to ((⟨#[]⟩:ByteArray).size:Nat)=r:=by
  obtain ⟨p,m,sum,l,wh,k,md,t,pos⟩:=r
  have:=h.hpos
  dsimp only at this
  subst this
  rfl
 rw [hr] at e
 exact e
end Go.Proofs.YtfkcdnaghndgfaaGreatDoor
namespace Go.Proofs.YtfkcdnaghndgfaaGreatDoor
open Go.RowKit
set_option maxRecDepth 100000 in
set_option maxHeartbeats 12800000 in
theorem YO (p0:ByteArray) (k m:Int) (t:Nat) (D0:ByteArray) (lv:Int) (w:World) (hp0:p0.size≤9223372036854775807) (ht:t<4294967296) (hD0:D0.size≤9223372036854775807) (hlv : -9223372036854775808≤lv∧lv≤9223372036854775807) :
 Calls Tryz.prog 3 #[.string p0,qU k m t D0,.int .i64 lv] w fun e w'=>e = .returned (.bool true)∧Upd [] w w':=by
 obtain ⟨n1,hn1⟩ : ∃ n,n=min p0.size 300:=⟨_,rfl⟩
 obtain ⟨n2,hn2⟩ : ∃ n,n=min D0.size 600:=⟨_,rfl⟩
 have e1:min (p0.size:Int) 300=(n1:Int):=by omega
 have e2:min (D0.size:Int) 600=(n2:Int):=by omega
 have b1:n1≤p0.size:=by omega
 have b2:n2≤D0.size:=by omega
 obtain ⟨p,hp⟩ : ∃ p,p0.extract 0 n1=p:=⟨_,rfl⟩
 obtain ⟨D,hD⟩ : ∃ D,D0.extract 0 n2=D:=⟨_,rfl⟩
 have hps:p.size≤300:=by rw [← hp,ByteArray.size_extract]; omega
 have hDs:D.size≤600:=by rw [← hD,ByteArray.size_extract]; omega
 have HPE:=Lib.hid hp
 have HDE:=Lib.hid hD
 clear hp hD hn1 hn2
 have HLV:=Lib.hid Wm
 have HLY:=Lib.hid (fun z=>zis p k m t D lv z hps ht (by omega) hlv)
 have HRR:=Lib.hid (fun z=>Xn k m t D z ht (by omega))
 have HWY:=Lib.hid (fun z=>zfe p k m t D z hps)
 have HNM0:=fun z=>vK ⟨p,0,0,0,0,k,0,0,0⟩ z ⟨by dsimp only; omega,(show (0:Nat)<4294967296 by decide),(show (0:Nat)<4294967296 by decide)⟩
 have HMO:=Lib.hid (fun z=>zeQ p k m t D z hps (by omega))
 have hnl:=xp k p
 have hns:(zd (zl k p)).size=(zl k p).length:=zo _
 unfold RecD.v at HNM0
 dsimp only at HNM0
 have HNM:=Lib.hid HNM0
 clear HNM0
 unfold qU at HLY HRR HWY HMO ⊢
 have HN:=Lib.hid (Blk.new w [.int .i64 k,.int .i64 m,.int .u32 (t:Nat),.string D0] 24)
 have HU:=Lib.hid ((Upd.refl [] w).alloc (.cells #[.int .i64 k,.int .i64 m,.int .u32 (t:Nat),.string D0] 24))
 go_enter Tryz.func3,Tryz.ntmps3
 go_upto_region 1 with fail
 change Code.wp _ _ _ _ (w.alloc (.cells #[.int .i64 k,.int .i64 m,.int .u32 (t:Nat),.string D0] 24))
 generalize w.alloc (.cells #[.int .i64 k,.int .i64 m,.int .u32 (t:Nat),.string D0] 24)=w1 at *
 generalize hge:w.heap.size=g at *
 have hg:w.heap.size≤g:=by omega
 clear hge
 go_cut [0] (fun s0 wx=>s0 = .string p∧Blk wx g [.int .i64 k,.int .i64 m,.int .u32 (t:Nat),.string D] 24∧Upd [] w wx)
 case first =>
  have cA:=HN.out.drew.all
  have fA:=HN.out.drew.frz
  refine wp_region_held_drew (S:=fun w'=>Upd [g] w1 w') (by kernel_rfl) (Upd.refl _ _).drew (fun hHeld=>hdN ?_)
  refine hdT 0 (some 15) ?_; refine hdT 1 (some 16) ?_; refine hdT 2 (some 17) ?_; refine hdT 3 (some 18) ?_
  refine hdT 4 (some 19) ?_ (hy:=by intro w0 hSw; clear hSw; go_simp; rw [HPE.out]) (v := .string p); refine hdT 5 (some 20) ?_
  refine hdT 7 (some 22) ?_; refine hdT 12 (some 0) ?_
  refine wpAnyH_ready (rs:=[6,8]) (by kernel_rfl) (by simp) ?_
  refine AllReadyH.cons rfl (fun K hK=>?_) (AllReadyH.cons rfl (fun K hK=>?_) AllReadyH.nil)
  · skip
    go_simp
    go_wp2
    refine hK.out _ _ hHeld (fun hHeld=>hdN ?_)
    clear hK K
    refine hdO 8 (fun K hK=>?_)
    go_simp
    go_wp2
    refine hK.out _ _ hHeld (fun hHeld=>hdN ?_)
    clear hK K
    refine hdT 9 (some 24) ?_; refine hdT 10 (some 25) ?_
    refine hdT 11 (some 26) ?_ (hy:=by intro w0 hSw; clear hSw; go_simp; rw [HDE.out]) (v := .string D); refine hdT 13 (some 27) ?_
    refine hdO 14 (fun K hK=>?_)
    go_simp
    go_wp2
    refine hK.out _ _ (hHeld.setCell (.inl (by simp)) _) (fun hHeld=>hdN ?_)
    clear hK K
    refine wpAnyH_done (by kernel_rfl) ?_ 0
    go_wp2
    go_meet
    exact ⟨rfl,HN.out.drew.set 3 _,HU.out.drew.setCell (.inr hg) _⟩
  · skip
    go_simp
    go_wp2
    refine hK.out _ _ hHeld (fun hHeld=>hdN ?_)
    clear hK K
    refine hdT 9 (some 24) ?_; refine hdT 10 (some 25) ?_
    refine hdO 6 (fun K hK=>?_)
    go_simp
    go_wp2
    refine hK.out _ _ hHeld (fun hHeld=>hdN ?_)
    clear hK K
    refine hdT 11 (some 26) ?_ (hy:=by intro w0 hSw; clear hSw; go_simp; rw [HDE.out]) (v := .string D); refine hdT 13 (some 27) ?_
    refine hdO 14 (fun K hK=>?_)
    go_simp
    go_wp2
    refine hK.out _ _ (hHeld.setCell (.inl (by simp)) _) (fun hHeld=>hdN ?_)
    clear hK K
    refine wpAnyH_done (by kernel_rfl) ?_ 0
    go_wp2
    go_meet
    exact ⟨rfl,HN.out.drew.set 3 _,HU.out.drew.setCell (.inr hg) _⟩
 case rest =>
 obtain ⟨rfl,hN,hU⟩:=hcut
 clear e1 e2 b1 b2 HPE HDE HN HU
 have HN:=Lib.hid hN
 have HU:=Lib.hid hU
 clear hN hU
 have cA:=HN.out.all
 go_wp2_with fail
 refine (HLY.out _).mono ?_
 rintro e w2 ⟨⟨rp,rm,rsum,rl,rwh,rk,rmd,rt,rpos⟩,s,rfl,hL,hu⟩
 unfold RecD.v
 dsimp only
 have HL:=Lib.hid hL
 have HN:=Lib.hid ((HN.out.upd hu (by simp)).alloc (.cells #[.string rp,.int .i64 rm,.int .u32 (rsum:Nat),.int .i64 rl,.int .i64 rwh,.int .i64 rk,.int .i64 rmd,.int .u32 (rt:Nat),.int .i64 rpos] 26))
 have HU:=Lib.hid ((HU.out.then hu).alloc (.cells #[.string rp,.int .i64 rm,.int .u32 (rsum:Nat),.int .i64 rl,.int .i64 rwh,.int .i64 rk,.int .i64 rmd,.int .u32 (rt:Nat),.int .i64 rpos] 26))
 have HC:=Lib.hid (Blk.new w2 [.string rp,.int .i64 rm,.int .u32 (rsum:Nat),.int .i64 rl,.int .i64 rwh,.int .i64 rk,.int .i64 rmd,.int .u32 (rt:Nat),.int .i64 rpos] 26)
 clear hL hu cA HLY
 go_upto_region 3 with fail
 change Code.wp _ _ _ _ (w2.alloc (.cells #[.string rp,.int .i64 rm,.int .u32 (rsum:Nat),.int .i64 rl,.int .i64 rwh,.int .i64 rk,.int .i64 rmd,.int .u32 (rt:Nat),.int .i64 rpos] 26))
 generalize w2.alloc (.cells #[.string rp,.int .i64 rm,.int .u32 (rsum:Nat),.int .i64 rl,.int .i64 rwh,.int .i64 rk,.int .i64 rmd,.int .u32 (rt:Nat),.int .i64 rpos] 26)=w3 at *
 generalize w2.heap.size=c at *
 refine wp_region_held_drew (S:=fun w'=>Blk w' g [.int .i64 k,.int .i64 m,.int .u32 (t:Nat),.string D] 24∧Blk w' c [.string rp,.int .i64 rm,.int .u32 (rsum:Nat),.int .i64 rl,.int .i64 rwh,.int .i64 rk,.int .i64 rmd,.int .u32 (rt:Nat),.int .i64 rpos] 26∧Upd [] w w') (by kernel_rfl) ⟨HN.out.drew,HC.out.drew,HU.out.drew⟩ (fun hHeld=>hdN ?_)
 refine hdT 0 (some 36) ?_; refine hdT 1 (some 37) ?_ (hy:=by intro w0 hSw; have cA:=hSw.1.all; go_simp; try with_reducible rfl)
 refine hdT 2 (some 38) ?_ (hy:=by intro w0 hSw; have cA:=hSw.1.all; go_simp; try with_reducible rfl)
 refine hdO 3 (fun K hK=>?_)
 go_simp
 refine (HRR.out _).mono ?_
 rintro e z1 ⟨rfl,hz1⟩
 go_wp2
 refine hK.out _ _ ⟨hHeld.1.upd hz1 (by simp),hHeld.2.1.upd hz1 (by simp),hHeld.2.2.then hz1⟩ (fun hHeld=>hdN ?_)
 clear hK K
 refine hdO 4 (fun K hK=>?_)
 go_simp
 refine (HWY.out _).mono ?_
 rintro e z1 ⟨rfl,hz1⟩
 go_wp2
 refine hK.out _ _ ⟨hHeld.1.upd hz1 (by simp),hHeld.2.1.upd hz1 (by simp),hHeld.2.2.then hz1⟩ (fun hHeld=>hdN ?_)
 clear hK K
 refine hdT 5 (some 10) ?_
 refine wpAnyH_done (by kernel_rfl) ?_ 0
 have HN:=Lib.hid hHeld.1
 have HC:=Lib.hid hHeld.2.1
 have HU:=Lib.hid hHeld.2.2
 clear hHeld HRR HWY
 have hM:((30+(zl k p).length:Nat):Int)=30+((zd (zl k p)).size:Nat):=by omega
 have HSZ:=Lib.hid (fun r z (h:RecD.Fits r) hl=>VU r z h hl)
 rw [hM] at HMO
 have HA1:Hid (IntKind.i64.wrap (30+((zd (zl k p)).size:Int))=30+((zd (zl k p)).size:Nat)):=Lib.hid (IntWalk.i64_in _ (by omega))
 have HA2:Hid (IntKind.i64.wrap (30+((zd (zl k p)).size:Int)+(D.size:Int))=30+((zd (zl k p)).size:Nat)+(D.size:Nat)):=Lib.hid (IntWalk.i64_in _ (by omega))
 have HHM:=Lib.hid hM
 generalize hNS:zd (zl k p)=NS at *
 have HNS:=Lib.hid hns
 clear hM hNS hns
 go_upto_region 4 with fail
 refine wp_region_held_drew (S:=fun w'=>Blk w' g [.int .i64 k,.int .i64 m,.int .u32 (t:Nat),.string D] 24∧Blk w' c [.string rp,.int .i64 rm,.int .u32 (rsum:Nat),.int .i64 rl,.int .i64 rwh,.int .i64 rk,.int .i64 rmd,.int .u32 (rt:Nat),.int .i64 rpos] 26∧Upd [] w w') (by kernel_rfl) ⟨HN.out.drew,HC.out.drew,HU.out.drew⟩ (fun hHeld=>hdN ?_)
 refine hdT 0 (some 41) ?_; refine hdT 1 (some 42) ?_
 refine hdT 2 (some 43) ?_ (hy:=by intro w0 hSw; have cA:=hSw.1.all; go_simp; try with_reducible rfl); refine hdT 3 (some 44) ?_
 refine hdT 7 (some 48) ?_; refine hdT 8 (some 49) ?_ (hy:=by intro w0 hSw; have cA:=hSw.1.all; go_simp; try with_reducible rfl)
 refine hdT 9 (some 50) ?_
 refine hdO 4 (fun K hK=>?_)
 go_simp
 refine (HNM.out _).mono ?_
 rintro e z1 ⟨rfl,hz1⟩
 go_wp2
 refine hK.out _ _ ⟨hHeld.1.upd hz1 (by simp),hHeld.2.1.upd hz1 (by simp),hHeld.2.2.then hz1⟩ (fun hHeld=>hdN ?_)
 clear hK K
 refine hdT 5 (some 46) ?_
 refine hdT 6 (some 47) ?_ (hy:=by intro w0 hSw; clear hSw; go_simp; all_goals rw [HA1.out]) (v := .int .i64 (30+(NS.size:Nat)))
 refine hdT 10 (some 51) ?_ (hy:=by intro w0 hSw; clear hSw; go_simp; all_goals rw [HA2.out]) (v := .int .i64 (30+(NS.size:Nat)+(D.size:Nat)))
 refine hdT 11 (some 11) ?_
 refine wpAnyH_done (by kernel_rfl) ?_ 0
 have HN:=Lib.hid hHeld.1
 have HC:=Lib.hid hHeld.2.1
 have HU:=Lib.hid hHeld.2.2
 clear hHeld HNM HA1 HA2
 have cA:=HN.out.all
 go_wp2_with fail
 refine (HMO.out _).mono ?_
 rintro e w4 ⟨rfl,hu⟩
 have HN:=Lib.hid (HN.out.upd hu (by simp))
 have HC:=Lib.hid (HC.out.upd hu (by simp))
 have HU:=Lib.hid (HU.out.then hu)
 clear hu cA HMO
 by_cases h0:yD p k m t D=0
 rotate_left
 · obtain ⟨hr,hs⟩:=HL.out.1 h0
   unfold jc at hr
   injection hr with f1 f2 f3 f4 f5 f6 f7 f8 f9
   subst f1 f2 f3 f4 f5 f6 f7 f8 f9 hs
   have e1:(((yD p k m t D:Nat):Int) != 0)=true:=by rw [bne_iff_ne]; omega
   generalize yD p k m t D=WY at *
   have cA:=HC.out.all
   clear HL h0
   go_wp2_with fail
   refine (HLV.out _).mono ?_
   rintro e w5 ⟨rfl,hu⟩
   go_wp2
   go_returns
   exact ⟨rfl,HU.out.then hu⟩
 obtain ⟨X,hX,hs⟩:=HL.out.2 h0
 have hXs:X.size≤600:=by
  by_cases hk:k=1
  · rcases (hX.file hk).2.2 with ⟨_,h⟩ | ⟨_,h,_⟩
    · rw [h]; exact hDs
    · omega
  · rw [(hX.dir hk).2.2.2.1]; decide
 have hcase:(rm=0∧X=D)∨(rm=8∧X.size<D.size):=by
  by_cases hk:k=1
  · rcases (hX.file hk).2.2 with h | ⟨h1,h2,_⟩
    · exact .inl h
    · exact .inr ⟨h1,h2⟩
  · obtain ⟨_,_,h1,h2,_,_,h3⟩:=hX.dir hk
    exact .inl ⟨h3,h2.trans h1.symm⟩
 have hq:=zbQ hX (by omega)
 rw [← hs] at hq
 have hsz:s.size=30+NS.size+X.size:=by
  have:=HNS.out
  rw [hs,ByteArray.size_append,zo,qz,hX.hk,hX.hp]; omega
 have HQ0:=fun z=>za9 s _ z (by have:=HNS.out; omega) hX.fits
 have HZ0:=fun z=>HSZ.out _ z hX.fits (by rw [hX.hl]; omega)
 rw [hq] at HQ0
 rw [hX.hk,hX.hp,HHM.out] at HZ0
 obtain ⟨-,-,e1,e2,e3,e4,e5,e6,-,-⟩:=hX
 dsimp only at e1 e2 e3 e4 e5 e6
 have e1:=e1.symm
 have e2:=e2.symm
 have e3:=e3.symm
 subst e1 e2 e3 e4 e5 e6
 unfold RecD.v zgO qU at HQ0
 unfold RecD.v at HZ0
 dsimp only at HQ0 HZ0
 have HQ:=Lib.hid HQ0
 have HZ:=Lib.hid HZ0
 have hle:(s.size:Int)≤30+(NS.size:Int)+(D.size:Int):=by
  rcases hcase with ⟨_,rfl⟩ | ⟨_,h⟩<;>omega
 have hze:(s.size:Int)=30+(NS.size:Int)+(X.size:Int):=by omega
 have HZE:=Lib.hid hze
 have HLE:=Lib.hid hle
 clear hq hs HQ0 HZ0 HL HSZ HHM HNS hze hle hsz
 rw [h0]
 clear h0
 have cA:=HC.out.all
 have nA:=HN.out.all
 go_wp2_with fail
 refine (HQ.out _).mono ?_
 rintro e w5 ⟨rfl,hu⟩
 have HN:=Lib.hid ((HN.out.upd hu (by simp)).alloc (.cells #[.int .i64 k,.int .i64 m,.int .u32 (t:Nat),.string D] 24))
 have HC:=Lib.hid ((HC.out.upd hu (by simp)).alloc (.cells #[.int .i64 k,.int .i64 m,.int .u32 (t:Nat),.string D] 24))
 have HU:=Lib.hid ((HU.out.then hu).alloc (.cells #[.int .i64 k,.int .i64 m,.int .u32 (t:Nat),.string D] 24))
 have HV:=Lib.hid (Blk.new w5 [.int .i64 k,.int .i64 m,.int .u32 (t:Nat),.string D] 24)
 clear hu cA nA HQ
 go_upto_region 10 with fail
 change Code.wp _ _ _ _ (w5.alloc (.cells #[.int .i64 k,.int .i64 m,.int .u32 (t:Nat),.string D] 24))
 generalize w5.alloc (.cells #[.int .i64 k,.int .i64 m,.int .u32 (t:Nat),.string D] 24)=w6 at *
 generalize w5.heap.size=v at *
 have cA:=HC.out.all
 have nA:=HN.out.all
 have vA:=HV.out.all
 go_cut [14] (fun s14 wx=>s14 = .bool true∧wx=w6)
 case first =>
  rcases hcase with ⟨rfl,rfl⟩ | ⟨rfl,hlt⟩
  · go_wp2
    go_meet
    exact ⟨rfl,rfl⟩
  · have hlt2:(X.size:Int)<(D.size:Int):=by omega
    go_wp2
    go_meet
    exact ⟨rfl,rfl⟩
 case rest =>
 obtain ⟨rfl,rfl⟩:=hcut
 clear hcase
 go_wp2_with fail
 refine (HZ.out _).mono ?_
 rintro e w7 ⟨rfl,hu⟩
 have HN:=Lib.hid (HN.out.upd hu (by simp))
 have HC:=Lib.hid (HC.out.upd hu (by simp))
 have HU:=Lib.hid (HU.out.then hu)
 clear hu cA nA vA
 have cA:=HC.out.all
 have nA:=HN.out.all
 have hze:((s.size:Int)==30+(NS.size:Int)+(X.size:Int))=true:=by rw [beq_iff_eq]; exact HZE.out
 have hle:=HLE.out
 go_wp2_with fail
 refine (HLV.out _).mono ?_
 rintro e w8 ⟨rfl,hu⟩
 go_wp2
 go_returns
 exact ⟨rfl,HU.out.then hu⟩
end Go.Proofs.YtfkcdnaghndgfaaGreatDoor
