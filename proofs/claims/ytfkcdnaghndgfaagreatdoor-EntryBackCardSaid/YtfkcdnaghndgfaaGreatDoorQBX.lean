/- What is written in blocks is read as the tokens' bytes (plain). -/
import Derived.Test.YtfkcdnaghndgfaaGreatDoorQBW
import Derived.Test.YtfkcdnaghndgfaaGreatDoorQBT
import Derived.Test.YtfkcdnaghndgfaaGreatDoorLzM
import Derived.Test.YtfkcdnaghndgfaaGreatDoorQBV
import Derived.Test.YtfkcdnaghndgfaaGreatDoorQAQ
import Derived.Test.YtfkcdnaghndgfaaGreatDoorQAY
import Derived.Test.YtfkcdnaghndgfaaGreatDoorQAT
set_option linter.unusedVariables false
set_option linter.unusedSimpArgs false
set_option linter.unusedSectionVars false
namespace Go.Proofs.YtfkcdnaghndgfaaGreatDoor
theorem StandsAt.pre {A M T:List Bool} (h:A++M <+: T):StandsAt T A.length M:=by
 obtain ⟨B,rfl⟩:=h
 exact StandsAt.mk' A M B
theorem KY : ∀ (l:List Tok) (out r:List Nat),xF l=0→zJ l out=some r→r=out++zQ l
 | [],out,r,_,h=>by
   have:out=r:=by simpa [zJ] using h
   rw [← this]
   simp [zQ]
 | t::l,out,r,hf,h=>by
   have h0:t.long=0:=by
    unfold xF at hf
    rw [List.countP_cons] at hf
    by_cases e:t.long=0
    · exact e
    · simp [e] at hf
   have hf2:xF l=0:=by
    unfold xF at *
    rw [List.countP_cons] at hf
    omega
   rw [yw,if_pos h0] at h
   split at h
   · cases h
   · rw [KY l _ r hf2 h]
     unfold zQ
     rw [List.map_cons,List.append_assoc]
     rfl
theorem Kc : ∀ (l m:List Tok) (out:List Nat),zJ (l++m) out=(zJ l out).bind (zJ m)
 | [],m,out=>rfl
 | t::l,m,out=>by
   rw [List.cons_append,yw,yw]
   split
   · split
     · rfl
     · exact Kc l m _
   · split
     · rfl
     · exact Kc l m _
theorem zaq {H T:List Bool} {bs out:List Nat} {most:Nat} (hb : ∀ x∈bs,x<256) (hn:bs.length≤65535) (hm:out.length+bs.length≤most) (hT:xQ H bs <+: T) :
 jL (yA T) most out H.length = .ok (out++bs,(xQ H bs).length):=by
 have hal:xY H.length false=(zO H).length:=by rw [zU]; rfl
 have p1:zO H++low 16 bs.length <+: T:=List.IsPrefix.trans ⟨low 16 (65535-bs.length)++zj bs,by unfold xQ; simp only [List.append_assoc]⟩ hT
 have p2:(zO H++low 16 bs.length)++low 16 (65535-bs.length) <+: T:=List.IsPrefix.trans ⟨zj bs,by unfold xQ; rfl⟩ hT
 have e1:=qd (StandsAt.pre p1) (by omega)
 have e2:=qd (StandsAt.pre p2) (by omega)
 obtain ⟨X,hX⟩ : ∃ X,zO H++low 16 bs.length++low 16 (65535-bs.length)=X:=⟨_,rfl⟩
 have hX8:X.length%8=0:=by rw [← hX,List.length_append,List.length_append,ze,ze,zU]; omega
 have hXl:X.length=(zO H).length+16+16:=by rw [← hX,List.length_append,List.length_append,ze,ze]
 have hst:xQ H bs=X++zj bs:=by unfold xQ; rw [hX]
 have hsz:(zf bs).size=bs.length:=zu bs
 have p3:zO X++zj (zc (zf bs)) <+: T:=by rw [Ju X hX8,zv bs hb,← hst]; exact hT
 obtain ⟨r1,r2,r3⟩:=zdm p3
 rw [hsz] at r1 r2 r3
 unfold jL
 rw [hal,qz e1]
 dsimp only
 rw [List.length_append,ze] at e2
 rw [qz e2]
 unfold jw
 dsimp only
 rw [show (zO H).length+16+16=X.length from hXl.symm]
 rw [if_pos rfl]
 show (if jd (zf (pack T)) X.length false (bs.length:Int)=true then _ else _)=_
 rw [r1,if_neg (by simp),if_pos hm]
 show Except.ok (out++zc (jT (zf (pack T)) X.length false (bs.length:Int)),QC (zf (pack T)) X.length false (bs.length:Int))=_
 rw [r2,r3,zv bs hb,Ju X hX8,← hst]
theorem Zf {na nb:List Nat} : ∀ (l:List Tok),Coded na nb l→l.length<(xZ na nb l).length
 | [],h=>by
   show 0<(zq na 256).length
   rw [zH]
   have:=h.fin
   omega
 | t::l,h=>by
   have ih:=Zf l ⟨h.fin,fun u hu=>h.lit u (List.mem_cons_of_mem _ hu),fun u hu=>h.bak u (List.mem_cons_of_mem _ hu)⟩
   have h1:=h.lit t List.mem_cons_self
   show l.length+1<(kr na nb t++xZ na nb l).length
   have h2:1≤(kr na nb t).length:=by
    unfold kr
    split
    · rename_i h0
      rw [zH]
      unfold xx at h1
      rw [if_pos h0] at h1
      omega
    · rw [List.length_append,zH]
      omega
   rw [List.length_append]
   omega
theorem zdF {L T:List Bool} {k:Nat} {last:Bool} (hk:k≤2) (hT:yn L k last <+: T) :
 zG (yA T) L.length 1 = .ok ((if last then 1 else 0),L.length+1)∧zG (yA T) (L.length+1) 2 = .ok (k,L.length+1+2)∧(yn L k last).length=L.length+1+2:=by
 have p1:L++low 1 (if last then 1 else 0) <+: T:=List.IsPrefix.trans ⟨low 2 k,rfl⟩ hT
 have e1:=qd (StandsAt.pre p1) (by split<;>omega)
 have e2:=qd (StandsAt.pre (A:=L++low 1 (if last then 1 else 0)) hT) (by omega)
 rw [List.length_append,ze] at e2
 refine ⟨e1,e2,?_⟩
 unfold yn
 rw [List.length_append,List.length_append,ze,ze]
theorem Jt {α β:Type} {x:Except Nat α} {v:α} (h:x = .ok v) (f:α→Except Nat β):(x >>= f)=f v:=by rw [h]; rfl
theorem XX {L M T:List Bool} {l:List Tok} {k most F:Nat} {last:Bool} {out r:List Nat} (hB:qh L l k last M) (hk0:k=0→xF l=0∧l.length≤65535) (hok : ∀ t∈l,zo t)
 (he:zJ l out=some r) (hm:r.length≤most) (hF:k≠0→l.length<F) (hT:M <+: T):jF (yA T) most F out L.length = .ok ((last,r),M.length):=by
 have hml:(zh l).1.length=286∧(zh l).2.length=30:=by have:=xt l l.length (Nat.le_refl _); rw [List.take_length] at this; exact ⟨this.la,this.lb⟩
 have hk2:k≤2:=by rcases hB with h | h | h<;>omega
 have hpre:yn L k last <+: M:=by
  rcases hB with ⟨h,e⟩ | ⟨h,e⟩ | ⟨h,lits,backs,steps,lens,t,_,_,e⟩
  · rw [e,h]
    exact ⟨List.replicate ((8-(yn L 0 last).length%8)%8) false++(low 16 (zQ l).length++(low 16 (65535-(zQ l).length)++zj (zQ l))),by unfold xQ zO; simp only [List.append_assoc]⟩
  · rw [e,h]; exact ⟨_,rfl⟩
  · rw [e,h]; exact ⟨vr lits.length backs.length t lens steps++xZ lits backs l,by simp only [List.append_assoc]⟩
 obtain ⟨t1,t2,t3⟩:=zdF hk2 (hpre.trans hT)
 have hkind:ZJ (yA T) most F out (k,L.length+1+2) = .ok (r,M.length):=by
  rw [← t3]
  unfold ZJ
  dsimp only
  rcases hB with ⟨h,e⟩ | ⟨h,e⟩ | ⟨h,lits,backs,steps,lens,t,hMd,hTo,e⟩
  · subst h
    obtain ⟨f0,f1⟩:=hk0 rfl
    have hr:=KY l out r f0 he
    rw [if_pos rfl,e,hr]
    have hbl:(zQ l).length=l.length:=List.length_map _
    have hb : ∀ x∈zQ l,x<256:=fun x hx=>by
     obtain ⟨t,ht,rfl⟩:=List.mem_map.1 hx
     have:=hok t ht
     unfold zo at this
     omega
    rw [hr,List.length_append] at hm
    exact zaq hb (by omega) hm (by rw [← e]; exact hT)
  · subst h
    have hp:=Xv l hok
    rw [if_neg (by omega),if_pos rfl]
    have hs:StandsAt T (yn L 1 last).length (xZ (yU 4) (List.replicate 32 5) l):=StandsAt.pre (by rw [← e]; exact hT)
    have:=Jr (yU 4) (List.replicate 32 5) ⟨hp.a3,hp.a0⟩ most T l out r _ F hok hp.coded (fun h=>⟨hp.b3,hp.b0 h⟩) he hm (hF (by omega)) hs
    show xu KD Ks (yA T) most F out (yn L 1 last).length=_
    unfold KD Ks
    rw [this,e,List.length_append]
  · subst h
    have hp:=hMd.plan hml hok
    rw [if_neg (by omega),if_neg (by omega),if_pos rfl]
    have hs1:StandsAt T (yn L 2 last).length (vr lits.length backs.length t lens steps):=StandsAt.pre (List.IsPrefix.trans ⟨xZ lits backs l,by rw [e]⟩ hT)
    have hs2:StandsAt T (yn L 2 last++vr lits.length backs.length t lens steps).length (xZ lits backs l):=StandsAt.pre (by rw [← e]; exact hT)
    rw [List.length_append] at hs2
    have h1:=KJ hMd hTo hml hok hs1
    have h2:=Jr lits backs ⟨hp.a3,hp.a0⟩ most T l out r _ F hok hp.coded (fun h=>⟨hp.b3,hp.b0 h⟩) he hm (hF (by omega)) hs2
    rw [Jt h1]
    show xu (ints lits) (ints backs) (yA T) most F out ((yn L 2 last).length+(vr lits.length backs.length t lens steps).length)=_
    rw [h2,e,List.length_append,List.length_append]
 unfold jF
 rw [Jt t1]
 dsimp only
 rw [Jt t2,Jt hkind]
 unfold JB
 dsimp only
 cases last<;>rfl
theorem jq {L M:List Bool} {l:List Tok} {k:Nat} {last:Bool} (hB:qh L l k last M) (hok : ∀ t∈l,zo t):L.length+3≤M.length∧(k≠0→L.length+3+l.length<M.length):=by
 have hml:(zh l).1.length=286∧(zh l).2.length=30:=by have:=xt l l.length (Nat.le_refl _); rw [List.take_length] at this; exact ⟨this.la,this.lb⟩
 have hh : ∀ j,(yn L j last).length=L.length+3:=fun j=>by unfold yn; rw [List.length_append,List.length_append,ze,ze]
 rcases hB with ⟨h,e⟩ | ⟨h,e⟩ | ⟨h,lits,backs,steps,lens,t,hMd,hTo,e⟩
 · refine ⟨?_,fun h2=>absurd h h2⟩
   rw [e]
   unfold xQ
   rw [List.length_append,List.length_append,List.length_append,zU,hh]
   omega
 · have hp:=Xv l hok
   have:=Zf l hp.coded
   rw [e,List.length_append,hh]
   exact ⟨by omega,fun _=>by omega⟩
 · have hp:=hMd.plan hml hok
   have:=Zf l hp.coded
   rw [e,List.length_append,List.length_append,hh]
   exact ⟨by omega,fun _=>by omega⟩
def kM:List Bool→List (List Tok×Nat)→List Bool→Prop
 | _,[],_=>False
 | L,[b],M=>qh L b.1 b.2 true M
 | L,b::c::r,M => ∃ N,qh L b.1 b.2 false N∧kM N (c::r) M
theorem Xn : ∀ (bs:List (List Tok×Nat)) (L M:List Bool),kM L bs M→(∀ b∈bs,∀ t∈b.1,zo t)→L.length<M.length
 | [b],L,M,h,hok=>by have:=(jq h (hok b List.mem_cons_self)).1; omega
 | b::c::r,L,M,⟨N,h1,h2⟩,hok=>by
   have:=(jq h1 (hok b List.mem_cons_self)).1
   have:=Xn (c::r) N M h2 (fun x hx=>hok x (List.mem_cons_of_mem _ hx))
   omega
theorem Zp {L M:List Bool} {l:List Tok} {k:Nat} {last:Bool} (hB:qh L l k last M):L <+: M:=by
 have hh : ∀ j,L <+: yn L j last:=fun j=>⟨low 1 (if last then 1 else 0)++low 2 j,by unfold yn; simp only [List.append_assoc]⟩
 rcases hB with ⟨h,e⟩ | ⟨h,e⟩ | ⟨h,lits,backs,steps,lens,t,_,_,e⟩
 · rw [e]
   exact (hh 0).trans ⟨List.replicate ((8-(yn L 0 last).length%8)%8) false++(low 16 (zQ l).length++(low 16 (65535-(zQ l).length)++zj (zQ l))),by unfold xQ zO; simp only [List.append_assoc]⟩
 · rw [e]; exact (hh 1).trans ⟨_,rfl⟩
 · rw [e]; exact (hh 2).trans ⟨vr lits.length backs.length t lens steps++xZ lits backs l,by simp only [List.append_assoc]⟩
theorem Zr : ∀ (bs:List (List Tok×Nat)) (L M:List Bool),kM L bs M→L <+: M
 | [b],L,M,h=>Zp h
 | b::c::r,L,M,⟨N,h1,h2⟩=>(Zp h1).trans (Zr (c::r) N M h2)
theorem YM (most F:Nat) (T:List Bool) : ∀ (bs:List (List Tok×Nat)) (L M:List Bool) (out r:List Nat) (g:Nat),kM L bs M→(∀ b∈bs,(∀ t∈b.1,zo t)∧(b.2=0→xF b.1=0∧b.1.length≤65535)) →
 zJ (bs.flatMap Prod.fst) out=some r→r.length≤most→M.length≤F→M <+: T→bs.length≤g→jv (yA T) most F g out L.length = .ok (r,M.length)
 | [b],L,M,out,r,g+1,hB,hok,he,hm,hF,hT,hg=>by
   have hb:=hok b List.mem_cons_self
   have hl:=jq hB hb.1
   have he2:zJ b.1 out=some r:=by simpa using he
   have h:=XX (F:=F) hB hb.2 hb.1 he2 hm (fun h=>by have:=hl.2 h; omega) hT
   unfold jv
   rw [Jt h]
   rfl
 | b::c::rs,L,M,out,r,g+1,⟨N,h1,h2⟩,hok,he,hm,hF,hT,hg=>by
   have hb:=hok b List.mem_cons_self
   have hl:=jq h1 hb.1
   have hNM:=Xn (c::rs) N M h2 (fun x hx=>(hok x (List.mem_cons_of_mem _ hx)).1)
   rw [List.flatMap_cons,Kc] at he
   obtain ⟨m,hm1,hm2⟩:=Option.bind_eq_some_iff.1 he
   have hle:=Jq _ _ _ hm2
   have h:=XX (F:=F) (most:=most) h1 hb.2 hb.1 hm1 (by omega) (fun h=>by have:=hl.2 h; omega) ((Zr (c::rs) N M h2).trans hT)
   have ih:=YM most F T (c::rs) N M m r g h2 (fun x hx=>hok x (List.mem_cons_of_mem _ hx)) hm2 hm hF hT (by simpa using hg)
   unfold jv
   rw [Jt h]
   show jv (yA T) most F g m N.length=_
   exact ih
theorem XH : ∀ (bs:List (List Tok×Nat)) (L M:List Bool),kM L bs M→(∀ b∈bs,∀ t∈b.1,zo t)→bs.length+L.length≤M.length
 | [b],L,M,h,hok=>by have:=(jq h (hok b List.mem_cons_self)).1; simp; omega
 | b::c::r,L,M,⟨N,h1,h2⟩,hok=>by
   have h3:=(jq h1 (hok b List.mem_cons_self)).1
   have h4:=XH (c::r) N M h2 (fun x hx=>hok x (List.mem_cons_of_mem _ hx))
   simp only [List.length_cons] at h4 ⊢
   omega
theorem zhR (most:Int) (bs:List (List Tok×Nat)) (M:List Bool) (r:List Nat) (hB:kM [] bs M) (hok : ∀ b∈bs,(∀ t∈b.1,zo t)∧(b.2=0→xF b.1=0∧b.1.length≤65535))
 (he:zJ (bs.flatMap Prod.fst) []=some r) (hm:r.length≤XG most):ofP (yA M) most = .ok (r,M.length):=by
 have hn:=XH bs [] M hB (fun b hb=>(hok b hb).1)
 have hs:M.length≤8*(yA M).size:=by unfold yA; rw [jm]; omega
 unfold ofP
 exact YM _ _ M bs [] M [] r _ hB hok he hm (by omega) (List.prefix_refl _) (by simp at hn; omega)
end Go.Proofs.YtfkcdnaghndgfaaGreatDoor
namespace Go.Proofs.YtfkcdnaghndgfaaGreatDoor
open Go.RowKit
theorem RT.blocks {bs:List Nat} {l:List Tok} {KK:List Tok→Nat→Prop} (hok : ∀ t∈l,zo t) (hb : ∀ b∈bs,b<256) (hbs:bs.length≤65000) (he:zJ l []=some bs) {q:Nat} {L:List Bool} (h:RT bs l KK q L) :
 ∃ p:List (List Tok×Nat),(∀ b∈p,(∀ t∈b.1,zo t)∧(b.2=0→xF b.1=0∧b.1.length≤65535))∧zJ (p.flatMap Prod.fst) []=some (bs.take (zY l q)) ∧
  (q<zX l.length → ∀ r M,kM L r M→kM [] (p++r) M)∧(q=zX l.length→0<q→kM [] p L):=by
 induction h with
 | zero=>exact ⟨[],by simp,by simp [zY,zl,zJ],fun _ r M hr=>hr,fun _ h=>by omega⟩
 | @succ q k L M h hK hk hB ih =>
   obtain ⟨p,h1,h2,h3,h4⟩:=ih
   refine ⟨p++[(kj bs l q k,k)],?_,?_,?_,?_⟩
   · intro b hbm
     rcases List.mem_append.1 hbm with hbm | hbm
     · exact h1 b hbm
     · rw [List.mem_singleton] at hbm
       subst hbm
       refine ⟨zcX hok hb q k,fun h0=>⟨?_,Nat.le_trans (WI hbs q k) (by omega)⟩⟩
       have h0':k=0:=h0
       show xF (kj bs l q k)=0
       unfold kj
       rw [if_pos h0']
       exact vH _
   · rw [List.flatMap_append,xg,h2]
     have e:[(kj bs l q k,k)].flatMap Prod.fst=kj bs l q k:=by simp
     rw [e]
     exact zhF hok he hbs q k
   · intro hq r M' hr
     rw [List.append_assoc]
     refine h3 (by omega) _ _ ?_
     rw [decide_eq_false (by omega)] at hB
     cases r with
     | nil=>exact hr.elim
     | cons c r=>exact ⟨M,hB,hr⟩
   · intro hq _
     rw [decide_eq_true hq] at hB
     exact h3 (by omega) [(kj bs l q k,k)] M hB
theorem Zi (n:Nat):0<zX n:=by unfold zX; split<;>omega
theorem VH (l:List Tok):zY l (zX l.length)=zl l:=by
 unfold zY
 rw [List.take_of_length_le]
 unfold zX
 split<;>omega
theorem zeB {bs:List Nat} {l:List Tok} {KK:List Tok→Nat→Prop} (hok : ∀ t∈l,zo t) (hb : ∀ b∈bs,b<256) (hbs:bs.length≤65000) (he:zJ l []=some bs) {M:List Bool} (h:RT bs l KK (zX l.length) M) (most:Int) (hm:bs.length≤XG most):ofP (yA M) most = .ok (bs,M.length):=by
 obtain ⟨p,h1,h2,_,h4⟩:=h.blocks hok hb hbs he
 have hl:=jH l [] bs hok he
 rw [List.length_nil,Nat.zero_add] at hl
 rw [VH,← hl,List.take_length] at h2
 exact zhR most p M bs (h4 rfl (Zi _)) h1 h2 hm
end Go.Proofs.YtfkcdnaghndgfaaGreatDoor
namespace Go.Proofs.YtfkcdnaghndgfaaGreatDoor
open Go.RowKit
attribute [local go_sem] Oper.semAt_some
theorem Row.cap {w:World} {e:TypeId} {size n n' c:Nat} {a:Option Addr} {xs:List Value} (h:Row w e size (.slice a n' c) n xs):c≤9223372036854775807:=by
 rcases h.2 with ⟨hv,h0⟩ | ⟨g,cap,cur,hv,hb,hg,hc,hm,_⟩
 · cases hv; omega
 · cases hv; unfold maxLen at hm; omega
theorem zhs {S:ByteArray} {l:List Tok} {KK:List Tok→Nat→Prop} (hS:S.size≤65000) (hok : ∀ t∈l,zo t) (he:zJ l []=some (zc S)) {M:List Bool} (h:RT (zc S) l KK (zX l.length) M):BackP S (zf (pack M)):=fun most hm =>
 .inr ⟨M.length,zeB hok (zT S) (by rw [zd]; exact hS) he h most (by rw [zd]; exact hm),(jm M).symm⟩
theorem za4 {a b:Nat} (h:a≤b):zX a≤zX b:=by unfold zX; split<;>split<;>omega
def zi9 (S:ByteArray) (w:World) (e:Ending) (w':World):Prop := ∃ X:ByteArray,e = .returned (.string X)∧BackP S X∧X.size≤S.size+6*zX S.size∧(S.size≤8000→X.size≤S.size+5)∧Upd [] w w'
theorem Wz {S:ByteArray} {l:List Tok} (hok : ∀ t∈l,zo t) (he:zJ l []=some (zc S)):S.size=zl l:=by
 have h:=jH l [] _ hok he
 rw [zd,List.length_nil,Nat.zero_add] at h
 exact h
theorem zg0 {S:ByteArray} {l:List Tok} {M:List Bool} (hS:S.size≤65000) (hok : ∀ t∈l,zo t) (he:zJ l []=some (zc S)) (hl:l.length≤S.size) (h:RT (zc S) l Vg (zX l.length) M) :
 (zf (pack M)).size≤S.size+6*zX S.size∧(S.size≤8000→(zf (pack M)).size≤S.size+5):=by
 have hs:=Wz hok he
 have h1:=zfc hok (by rw [zd]; exact hS) h
 rw [VH] at h1
 have h2:=za4 hl
 have h3:=Zi S.size
 have h4:=Zi l.length
 rw [jm]
 refine ⟨by omega,fun hx=>?_⟩
 have h5:zX l.length=1:=by
  have:zX S.size=1:=by unfold zX; split<;>omega
  omega
 have:=h1.2 h5
 omega
set_option maxRecDepth 100000 in
set_option maxHeartbeats 3200000 in
theorem zdc (S:ByteArray) (lv:Int) (w:World) (hs:S.size≤65000) (hlv : -9223372036854775808≤lv∧lv≤9223372036854775807) :
 Calls Tryz.prog 20 #[.string S,.int .i64 lv] w fun e w'=>zi9 S w e w':=by
 have hsz : ¬ (65000:Int)<(S.size:Int):=by omega
 go_enter Tryz.func20,Tryz.ntmps20
 go_wp2_with fail
 refine (WQ S lv _ hs hlv).mono ?_
 rintro e w1 ⟨v,l,rfl,hR,hok,he,hl,hO,hU1⟩
 obtain ⟨a,c,rfl,hT,-,ha,hc⟩:=TokIn.of_row hR (fun t ht=>by
  have:=hok t ht
  unfold zo at this
  omega)
 have HU1:=Lib.hid hU1
 have HE:=Lib.hid he
 have HOK:=Lib.hid hok
 have HL:=Lib.hid hl
 have HLD:=Lib.hid (zfA S l a l.length c 43 Vg w1 hT ha hc hR.cap (Wz hok he) hs hok zd5 KU)
 clear hU1 hR hO hT ha he hok hl
 go_wp2_with fail
 refine HLD.out.mono ?_
 rintro e w2 ⟨M,hM,rfl,hU2⟩
 have HU2:=Lib.hid (HU1.out.then hU2)
 have HM:=Lib.hid hM
 clear hM hU2 HLD
 go_wp2
 go_ret
 have hd:=zg0 hs HOK.out HE.out HL.out HM.out
 exact ⟨_,rfl,zhs hs HOK.out HE.out HM.out,hd.1,hd.2,HU2.out⟩
end Go.Proofs.YtfkcdnaghndgfaaGreatDoor
namespace Go.Proofs.YtfkcdnaghndgfaaGreatDoor
open Go.RowKit
theorem zhW (p:ByteArray) (k m:Int) (t:Nat) (D:ByteArray) (lv:Int) (w:World) (hp:p.size≤300) (ht:t<4294967296) (hD:D.size≤65000) (hlv : -9223372036854775808≤lv∧lv≤9223372036854775807) :
 Calls Tryz.prog 6 #[.string p,Qe k m t D,.int .i64 lv] w fun e w' => ∃ r s,e = .returned (.tuple #[r.v,.string s,.int .i64 (yZ p k m t D:Nat)])∧LayP p k m t D r s∧Upd [] w w' :=
 zc4 p k m t D lv w hp ht hD (fun z=>(zdc D lv z hD hlv).mono (fun e w' h=>by
  obtain ⟨X,he,hb,-,-,hu⟩:=h
  exact ⟨X,he,fun _=>hb,hu⟩))
theorem zau (w:World):Calls Tryz.prog 11 #[] w fun e w'=>e = .returned (.bool true)∧Upd [] w w' :=
 zcs (fun z=>(zdc { data := #[] } 9 z (by decide) (by decide)).mono (fun e w' h=>by
  obtain ⟨X,he,-,-,-,hu⟩:=h
  exact ⟨X,he,hu⟩)) w
end Go.Proofs.YtfkcdnaghndgfaaGreatDoor
namespace Go.Proofs.YtfkcdnaghndgfaaGreatDoor
open Go.RowKit
theorem zcr {p:ByteArray} {k m:Int} {t:Nat} {D:ByteArray} {r:RecD} {X:ByteArray} (h:LaidE p k m t D r X) (A B:ByteArray) (hA:A.size<2147483648) (hD:D.size≤65000) :
 Zv (A++(zf (zB r)++X)++B) (r.to A.size)=(k,m,t,D,0):=by
 unfold Zv
 rw [Vf h A B hA hD]
 dsimp only
 rw [if_neg (by simp),show (r.to A.size).k=k from h.hk,show (r.to A.size).md=m from h.hmd]
 by_cases hk:k=1
 · rw [if_pos hk,show (r.to A.size).t=t from (h.file hk).1]
 · rw [if_neg hk,(h.dir hk).2.1]
theorem Wm {p:ByteArray} {k m:Int} {t:Nat} {D:ByteArray} {r:RecD} {X:ByteArray} (h:LaidE p k m t D r X) (A B:ByteArray) (c:Nat) (hc:c≠r.sum) :
 ∃ e,e≠0∧Zv (A++(zf (zB r)++X)++B) ⟨r.p,r.m,c,r.l,r.wh,r.k,r.md,r.t,(A.size:Nat)⟩=(0,0,0,⟨#[]⟩,e) :=
 ⟨_,Vl h A B c hc,if_pos (Vl h A B c hc)⟩
theorem zdH {p:ByteArray} {k m:Int} {t:Nat} {D:ByteArray} {r:RecD} {X:ByteArray} (h:LaidE p k m t D r X) (A:ByteArray) (hA:A.size<2147483648) :
 Zv (A++(zf (zB r)++X).extract 0 ((zf (zB r)++X).size-1)) (r.to A.size)=(0,0,0,⟨#[]⟩,3):=by
 unfold Zv
 rw [zhc h A hA]
 exact if_pos (by simp)
end Go.Proofs.YtfkcdnaghndgfaaGreatDoor
