/- What a block's bits are read as (plain): numbers, symbols, tokens. -/
import Derived.Test.YtfkcdnaghndgfaaGreatDoorQAH
import Derived.Test.YtfkcdnaghndgfaaGreatDoorQBQ
import Derived.Test.YtfkcdnaghndgfaaGreatDoorQBF
import Derived.Test.YtfkcdnaghndgfaaGreatDoorQBK
import Derived.Test.YtfkcdnaghndgfaaGreatDoorQAE
import Derived.Test.YtfkcdnaghndgfaaGreatDoorQBT
set_option linter.unusedVariables false
set_option linter.unusedSimpArgs false
set_option linter.unusedSectionVars false
namespace Go.Proofs.YtfkcdnaghndgfaaGreatDoor
structure StandsAt (T:List Bool) (a:Nat) (M:List Bool):Prop where
 eq:(T.drop a).take M.length=M
 le:a+M.length≤T.length
theorem StandsAt.cut {T M:List Bool} {a:Nat} (h:StandsAt T a M):T=T.take a++M++T.drop (a+M.length)∧(T.take a).length=a:=by
 have hl:=h.le
 have h1:T=T.take a++T.drop a:=(List.take_append_drop a T).symm
 have h2:T.drop a=M++T.drop (a+M.length):=by
  conv=>lhs; rw [← List.take_append_drop M.length (T.drop a),h.eq,List.drop_drop]
 refine ⟨?_,by rw [List.length_take]; omega⟩
 rw [List.append_assoc,← h2]
 exact h1
theorem StandsAt.mk' (A M B:List Bool):StandsAt (A++M++B) A.length M :=
 ⟨by rw [List.append_assoc,List.drop_left,List.take_append_of_le_length (Nat.le_refl _),List.take_length],by simp⟩
theorem StandsAt.app {T M N:List Bool} {a:Nat} (h:StandsAt T a (M++N)):StandsAt T a M∧StandsAt T (a+M.length) N:=by
 obtain ⟨h1,h2⟩:=h.cut
 have hl:=h.le
 rw [List.length_append] at hl
 constructor
 · have:=StandsAt.mk' (T.take a) M (N++T.drop (a+(M++N).length))
   rw [h2] at this
   rwa [← List.append_assoc,List.append_assoc (T.take a) M N,← h1] at this
 · have:=StandsAt.mk' (T.take a++M) N (T.drop (a+(M++N).length))
   have e:(T.take a++M).length=a+M.length:=by rw [List.length_append,h2]
   rw [e] at this
   rwa [List.append_assoc (T.take a) M N,← h1] at this
def yw (T:List Bool):ByteArray:=zd (pack T)
theorem qj {T:List Bool} {a n v:Nat} (h:StandsAt T a (low n v)) (hv:v<2^n):zy (yw T) a n = .ok (v,a+n):=by
 obtain ⟨h1,h2⟩:=h.cut
 have hl:=h.le
 rw [ze] at hl
 unfold zy yw
 rw [if_pos (by rw [jt]; omega)]
 have:=VL (T.take a) (low n v) (T.drop (a+(low n v).length)) n 0 (by rw [ze]; omega)
 rw [← h1,h2,Nat.add_zero,List.drop_zero,List.take_of_length_le (by rw [ze]; exact Nat.le_refl _),Qm,Nat.mod_eq_of_lt hv] at this
 rw [this]
structure CodeOk (n:List Nat):Prop where
 not3:zi (ints n)≠3
 not0:zi (ints n)≠0
theorem ziE (l:List Nat):zf (ints l)=l:=by
 unfold zf ints
 rw [List.map_map]
 have:(Int.toNat∘fun x:Nat=>(x:Int))=id:=by funext x; simp
 rw [this,List.map_id]
theorem Qg {T:List Bool} {a S:Nat} {n:List Nat} (hc:CodeOk n) (h0:n.getD S 0≠0) (h:StandsAt T a (zs n S)):yR (ints n) (yw T) a = .ok (S,a+(zs n S).length):=by
 obtain ⟨hok,hps⟩:=xF hc.not3
 have h15:=kU hok
 rw [ziE] at hps h15
 have hS:S<n.length:=by
  rcases Nat.lt_or_ge S n.length with h | h
  · exact h
  · rw [List.getD_eq_getElem?_getD,List.getElem?_eq_none h] at h0
    exact absurd rfl h0
 obtain ⟨h1,h2⟩:=h.cut
 have hn:=zg4 n (T.take a) (T.drop (a+(zs n S).length)) S hps h15 hS h0
 rw [← h1,List.length_append,h2] at hn
 unfold yR yw
 rw [if_neg (by rintro (h | h); exact hc.not3 h; exact hc.not0 h),ziE,hn]
theorem zax (s:List Nat) (far:Nat) : ∀ k,yZ far k s=jf s far k
 | 0=>rfl
 | k+1=>by rw [ZY,kN,zax s far k]
theorem zdA : ∀ L:Fin 259,3≤L.val→qn ((257+(zF L.val 29 0).getD 0:Nat):Int) ((L.val-lAt.getD ((zF L.val 29 0).getD 0) 0:Nat):Int)=some L.val∧L.val-lAt.getD ((zF L.val 29 0).getD 0) 0<2^yO.getD ((zF L.val 29 0).getD 0) 0:=by decide +kernel
theorem zeR : ∀ c:Fin 29,yA ((257+c.val:Nat):Int)=((yO.getD c.val 0:Nat):Int):=by decide +kernel
theorem VM : ∀ c:Fin 30,xA ((c.val:Nat):Int)=((dBt c.val:Nat):Int):=by decide +kernel
theorem WT {n:Nat} : ∀ (m i z:Nat),qi n m i=some z→isD n z∧i≤z∧z<i+m
 | 0,i,z,h=>by cases h
 | m+1,i,z,h=>by
   rw [JK] at h
   split at h
   · rename_i hi
     cases h
     exact ⟨hi,by omega,by omega⟩
   · obtain ⟨h1,h2,h3⟩:=WT m (i+1) z h
     exact ⟨h1,by omega,by omega⟩
theorem zfy {K z:Nat} (h:qi K 30 0=some z):Qt 1 2 4 30 ((z:Nat):Int) ((K-dAt.getD z 0:Nat):Int)=some K∧K-dAt.getD z 0<2^dBt z:=by
 obtain ⟨h1,_,h3⟩:=WT 30 0 z h
 obtain ⟨t1,t2,t3⟩:=Ym ⟨z,by omega⟩
 dsimp only at t1 t2 t3
 unfold isD at h1
 have hlt:K-dAt.getD z 0<2^dBt z:=by rw [← t1]; omega
 refine ⟨?_,hlt⟩
 have hb:=VM ⟨z,by omega⟩
 dsimp only at hb
 have hb2:zE 2 4 30 ((z:Nat):Int)=((dBt z:Nat):Int):=hb
 have hneg : ¬ (((dBt z:Nat):Int) = -1∨((K-dAt.getD z 0:Nat):Int)<0∨(2:Int)^((dBt z:Nat):Int).toNat≤((K-dAt.getD z 0:Nat):Int)):=by
  rintro (h | h | h)
  · omega
  · omega
  · rw [Int.toNat_natCast] at h
    have e2:((2:Int)^dBt z)=((2^dBt z:Nat):Int):=by simp
    obtain ⟨p,hp⟩ : ∃ p,2^dBt z=p:=⟨_,rfl⟩
    rw [hp] at hlt e2
    rw [e2] at h
    omega
 unfold Qt
 rw [hb2,if_neg hneg]
 simp only [Int.toNat_natCast]
 rw [t2]
 congr 1
 omega
theorem qF {α:Type} {s:ByteArray} {a n v:Nat} (h:zy s a n = .ok (v,a+n)) (f:Nat×Nat→Except Nat α):(zy s a n >>= f)=f (v,a+n):=by rw [h]; rfl
theorem Jp : ∀ (l:List Tok) (s r:List Nat),zL l s=some r→s.length≤r.length
 | [],s,r,h=>by have:s=r:=by simpa [zL] using h
                rw [this]; exact Nat.le_refl _
 | t::l,s,r,h=>by
   rw [yr] at h
   split at h
   · split at h
     · cases h
     · have:=Jp l _ r h
       rw [List.length_append] at this
       omega
   · split at h
     · cases h
     · have:=Jp l _ r h
       rw [Jh] at this
       omega
theorem zg6 {t:Tok} (h:zr t) (h0 : ¬ t.long=0):(zF t.long.toNat 29 0).getD 0<29:=by
 unfold zr at h
 have:=vP ⟨t.long.toNat,by omega⟩ (show 3≤t.long.toNat by omega)
 dsimp only at this
 cases e:zF t.long.toNat 29 0 with
 | none=>simp
 | some r=>rw [e] at this; simp at this; simpa using this
theorem Jc (na nb:List Nat) (ca:CodeOk na) (most:Nat) (T:List Bool) : ∀ (l:List Tok) (out r:List Nat) (a g:Nat),(∀ t∈l,zr t)→Coded na nb l→((∃ t∈l,t.long≠0)→CodeOk nb)→zL l out=some r→r.length≤most→l.length<g →
 StandsAt T a (qh na nb l)→xH (ints na) (ints nb) (yw T) most g out a = .ok (r,a+(qh na nb l).length)
 | [],out,r,a,g+1,_,hc,_,he,_,_,hs=>by
   have he2:out=r:=by simpa [zL] using he
   subst he2
   have h:=Qg ca hc.fin hs
   show (yR (ints na) (yw T) a >>= _)=_
   rw [h]
   rfl
 | t::l,out,r,a,g+1,hok,hc,hcb,he,hm,hg,hs=>by
   have ht:=hok t List.mem_cons_self
   have hok2 : ∀ u∈l,zr u:=fun u hu=>hok u (List.mem_cons_of_mem _ hu)
   have hc2:Coded na nb l:=⟨hc.fin,fun u hu=>hc.lit u (List.mem_cons_of_mem _ hu),fun u hu=>hc.bak u (List.mem_cons_of_mem _ hu)⟩
   have hcb2:(∃ u∈l,u.long≠0)→CodeOk nb:=fun ⟨u,hu,h⟩=>hcb ⟨u,List.mem_cons_of_mem _ hu,h⟩
   obtain ⟨hs1,hs2⟩:=StandsAt.app (M:=ki na nb t) (N:=qh na nb l) hs
   have hle:r.length≤most:=hm
   have hlen:(qh na nb (t::l)).length=(ki na nb t).length+(qh na nb l).length:=List.length_append
   rw [yr] at he
   have hgrow:=Jp l
   show (yR (ints na) (yw T) a >>= _)=_
   by_cases h0:t.long=0
   · rw [if_pos h0] at he
     split at he
     · cases he
     · have htb:ki na nb t=zs na t.byte:=by unfold ki; rw [if_pos h0]
       have hlc:xw t=t.byte:=by unfold xw; rw [if_pos h0]
       have hcl:=hc.lit t List.mem_cons_self
       rw [hlc] at hcl
       rw [htb] at hs1 hs2 hlen
       have h:=Qg ca hcl hs1
       have hb:t.byte<256:=by unfold zr at ht; omega
       have ih:=Jc na nb ca most T l (out++[t.byte]) r (a+(zs na t.byte).length) g hok2 hc2 hcb2 he hm (by simp at hg; omega) hs2
       have hro:=hgrow _ _ he
       rw [h]
       show xY (ints nb) (yw T) most (xH (ints na) (ints nb) (yw T) most g) out (t.byte,a+(zs na t.byte).length)=_
       unfold xY
       dsimp only
       rw [if_neg (by omega),if_pos hb,if_pos (by rw [List.length_append] at hro; simp at hro; omega),ih,hlen,Nat.add_assoc]
   · rw [if_neg h0] at he
     split at he
     · cases he
     · rename_i hbad
       have h3:3≤t.long∧t.long≤258∧1≤t.back∧t.back≤32768:=by unfold zr at ht; omega
       have hfar:t.back.toNat≤out.length:=by unfold Jn at hbad; omega
       have CB:=hcb ⟨t,List.mem_cons_self,h0⟩
       have hl:=zdA ⟨t.long.toNat,by omega⟩ (by show 3≤t.long.toNat; omega)
       dsimp only at hl
       obtain ⟨z,hz,hz30⟩:=qG t.back.toNat (by omega) (by omega)
       have hn:=zfy hz
       have hlc:xw t=257+(zF t.long.toNat 29 0).getD 0:=by unfold xw; rw [if_neg h0]
       have hbc:xT t=z:=by unfold xT; rw [hz]; rfl
       have hcl:=hc.lit t List.mem_cons_self
       have hcbk:=hc.bak t List.mem_cons_self h0
       have hr29:(zF t.long.toNat 29 0).getD 0<29:=zg6 ht h0
       have hlb:=zeR ⟨_,hr29⟩
       have hbb:=VM ⟨z,hz30⟩
       dsimp only at hlb hbb
       have htb:ki na nb t=zs na (xw t)++(low (yO.getD ((zF t.long.toNat 29 0).getD 0) 0) (t.long.toNat-lAt.getD ((zF t.long.toNat 29 0).getD 0) 0)++(zs nb (xT t)++low (dBt (xT t)) (t.back.toNat-dAt.getD (xT t) 0))):=by unfold ki; rw [if_neg h0]
       rw [hlc,hbc] at htb
       rw [hlc] at hcl
       rw [hbc] at hcbk
       generalize (zF t.long.toNat 29 0).getD 0=q at *
       rw [htb] at hs1 hs2 hlen
       obtain ⟨k1,k2⟩:=hs1.app
       obtain ⟨k3,k4⟩:=k2.app
       obtain ⟨k5,k6⟩:=k4.app
       have e1:=Qg ca hcl k1
       have e2:=qj k3 hl.2
       have e3:=Qg CB hcbk k5
       have e4:=qj k6 hn.2
       rw [ze] at e3 e4 k5 k6
       simp only [List.length_append,ze] at hs2 hlen
       have ih:=Jc na nb ca most T l _ r _ g hok2 hc2 hcb2 he hm (by simp at hg; omega) hs2
       have hro:=hgrow _ _ he
       rw [Jh] at hro
       rw [e1]
       show xY (ints nb) (yw T) most (xH (ints na) (ints nb) (yw T) most g) out (257+q,a+(zs na (257+q)).length)=_
       unfold xY
       dsimp only
       rw [if_neg (by omega),if_neg (by omega)]
       have hcp:YX (ints nb) (yw T) most (257+q) out (a+(zs na (257+q)).length) = .ok (jf out t.back.toNat t.long.toNat,a+((zs na (257+q)).length+(yO.getD q 0+((zs nb z).length+dBt z)))):=by
        unfold YX
        rw [hlb,if_neg (by omega),Int.toNat_natCast,qF e2]
        unfold xO
        dsimp only
        rw [hl.1]
        dsimp only
        rw [e3]
        show xQ (yw T) most t.long.toNat out (z,a+(zs na (257+q)).length+yO.getD q 0+(zs nb z).length)=_
        unfold xQ
        dsimp only
        rw [hbb,if_neg (by omega),Int.toNat_natCast,qF e4]
        unfold qJ
        dsimp only
        rw [hn.1]
        dsimp only
        rw [if_pos hfar,if_pos (by omega),zax]
        simp only [Nat.add_assoc]
       rw [hcp]
       show xH (ints na) (ints nb) (yw T) most g (jf out t.back.toNat t.long.toNat) _=_
       rw [ih,hlen]
       simp only [Nat.add_assoc]
end Go.Proofs.YtfkcdnaghndgfaaGreatDoor
namespace Go.Proofs.YtfkcdnaghndgfaaGreatDoor
open Go.RowKit
theorem zeG {A F:List Bool} {T:ByteArray} (h:zO A++zn (za T) <+: F):qd (zd (pack F)) A.length false (T.size:Int)=false∧qv (zd (pack F)) A.length false (T.size:Int)=T∧ve (zd (pack F)) A.length false (T.size:Int)=(zO A++zn (za T)).length:=by
 obtain ⟨B,hB⟩:=h
 have hal:=zT A
 have hlT:(za T).length=T.size:=zc T
 have hl:8*((A.length+7)/8)+8*T.size≤F.length:=by rw [← hB,List.length_append,List.length_append,hal,zK,hlT]; omega
 have hbad:qd (zd (pack F)) A.length false (T.size:Int)=false:=by
  unfold qd
  rw [jt,decide_eq_false (by omega),decide_eq_false (by omega)]
  rfl
 refine ⟨hbad,?_,?_⟩
 · unfold qv
   rw [hbad,if_neg (by simp),Int.toNat_natCast]
   obtain ⟨q,hq⟩ : ∃ q,(A.length+7)/8=q:=⟨_,rfl⟩
   rw [hq] at hal hl ⊢
   have h1:xB F (q+T.size)=xB (zO A) q++za T:=by
    rw [← hB,vM _ _ _ (by rw [List.length_append,hal,zK,hlT]; omega),← hlT]
    exact Ka (zO A) q hal (za T) (fun x hx=>by
     unfold za at hx; obtain ⟨c,_,rfl⟩:=List.mem_map.1 hx; exact c.toNat_lt)
   have h2:pack F=xB F (q+T.size)++(pack F).drop (q+T.size):=by
    conv=>lhs; rw [← List.take_append_drop (q+T.size) (pack F)]
    congr 1
    unfold pack xB
    rw [← List.map_take,List.take_range,Nat.min_eq_left (by omega)]
   have h3:pack F=xB (zO A) q++(za T++(pack F).drop (q+T.size)):=by rw [← List.append_assoc,← h1]; exact h2
   have ho:(xB (zO A) q).length=q:=vR _ _
   apply ByteArray.ext
   apply Array.ext'
   rw [ByteArray.data_extract,Array.toList_extract]
   show List.extract (zd (pack F)).data.toList q (q+T.size)=T.data.toList
   have h4:(zd (pack F)).data.toList=(pack F).map UInt8.ofNat:=by simp [zd]
   rw [h4,h3,List.extract_eq_take_drop,List.map_append,List.drop_left' (by rw [List.length_map,ho]),List.map_append,List.take_left' (by rw [List.length_map,hlT]; omega)]
   have h5:=congrArg (fun s:ByteArray=>s.data.toList) (zu T)
   simpa [zd] using h5
 · unfold ve
   rw [hbad,if_neg (by simp),Int.toNat_natCast,List.length_append,hal,zK,hlT]
end Go.Proofs.YtfkcdnaghndgfaaGreatDoor
namespace Go.Proofs.YtfkcdnaghndgfaaGreatDoor
theorem zhE:yp=xd:=rfl
def zbO (lens:List Nat):Nat→Nat→List Bool
 | _,0=>[]
 | i,m+1=>low 3 (lens.getD (yp.getD i 0) 0)++zbO lens (i+1) m
theorem zc4 (lens:List Nat) : ∀ (m i:Nat),i+m≤19→((yp.drop i).take m).flatMap (fun j=>low 3 (lens.getD j 0))=zbO lens i m
 | 0,i,_=>by simp [zbO]
 | m+1,i,h=>by
   have hi:i<yp.length:=by show i<19; omega
   have e:yp.getD i 0=yp[i]:=by rw [List.getD_eq_getElem?_getD,List.getElem?_eq_getElem hi]; rfl
   rw [List.drop_eq_getElem_cons hi,List.take_succ_cons,List.flatMap_cons,zc4 lens m (i+1) (by omega),zbO,e]
theorem zfa (lens:List Nat) (t:Nat) (h:t≤19):vI lens t=zbO lens 0 t:=by
 have:=zc4 lens t 0 (by omega)
 rw [List.drop_zero] at this
 exact this
def zdR (lens:List Nat):List Nat→Nat→Nat→List Nat
 | L,_,0=>L
 | L,i,m+1=>zdR lens (L.set (xd.getD i 0) (lens.getD (yp.getD i 0) 0)) (i+1) m
theorem Yu (lens:List Nat) (h7 : ∀ j,lens.getD j 0≤7) (T:List Bool) : ∀ (m i:Nat) (L:List Nat) (a:Nat),StandsAt T a (zbO lens i m)→xy (yw T) m i L a = .ok (zdR lens L i m,a+3*m)
 | 0,i,L,a,_=>rfl
 | m+1,i,L,a,h=>by
   obtain ⟨h1,h2⟩:=StandsAt.app (M:=low 3 (lens.getD (yp.getD i 0) 0)) (N:=zbO lens (i+1) m) h
   have e:=qj h1 (by have:=h7 (yp.getD i 0); omega)
   rw [ze] at h2
   unfold xy
   rw [e]
   dsimp only
   rw [Yu lens h7 T m (i+1) _ (a+3) h2,zdR]
   congr 2
   omega
theorem zcX : ∀ p q:Fin 19,yp.getD p.val 0=yp.getD q.val 0→p=q:=by decide +kernel
theorem zie : ∀ j:Fin 19,∃ q:Fin 19,yp.getD q.val 0=j.val:=by decide +kernel
structure FInv (lens L:List Nat) (i:Nat):Prop where
 len:L.length=19
 done : ∀ q,q<i→L.getD (yp.getD q 0) 0=lens.getD (yp.getD q 0) 0
 rest : ∀ q,i≤q→q<19→L.getD (yp.getD q 0) 0=0
theorem FInv.step {lens L:List Nat} {i:Nat} (h:FInv lens L i) (hi:i<19):FInv lens (L.set (xd.getD i 0) (lens.getD (yp.getD i 0) 0)) (i+1):=by
 have hs:xd.getD i 0=yp.getD i 0:=by rw [zhE]
 rw [hs]
 have hj:yp.getD i 0<L.length:=by rw [h.len]; exact (Kx ⟨i,hi⟩).1
 refine ⟨by rw [List.length_set]; exact h.len,fun q hq=>?_,fun q h1 h2=>?_⟩
 · by_cases e:q=i
   · subst e
     rw [List.getD_eq_getElem?_getD,List.getElem?_set_self hj]
     rfl
   · have hne:yp.getD i 0≠yp.getD q 0:=fun e2=>e (by have:=zcX ⟨i,hi⟩ ⟨q,by omega⟩ e2; cases this; rfl)
     rw [List.getD_eq_getElem?_getD,List.getElem?_set_ne hne,← List.getD_eq_getElem?_getD]
     exact h.done q (by omega)
 · have hne:yp.getD i 0≠yp.getD q 0:=fun e2=>by have:=zcX ⟨i,hi⟩ ⟨q,h2⟩ e2; cases this; omega
   rw [List.getD_eq_getElem?_getD,List.getElem?_set_ne hne,← List.getD_eq_getElem?_getD]
   exact h.rest q (by omega) h2
theorem Wt (lens:List Nat) : ∀ (m i:Nat) (L:List Nat),i+m≤19→FInv lens L i→FInv lens (zdR lens L i m) (i+m)
 | 0,i,L,_,h=>h
 | m+1,i,L,hm,h=>by
   have:=Wt lens m (i+1) _ (by omega) (h.step (by omega))
   rw [show i+(m+1)=i+1+m by omega]
   exact this
theorem zfV {lens:List Nat} {t:Nat} (hl:lens.length=19) (ht:ToldO lens t):zdR lens (List.replicate 19 0) 0 t=lens:=by
 have h0:FInv lens (List.replicate 19 0) 0:=⟨List.length_replicate,fun q hq=>by omega,fun q _ hq=>by rw [List.getD_eq_getElem?_getD,List.getElem?_replicate]; split<;>rfl⟩
 have h:=Wt lens t 0 _ (by have:=ht.hi; omega) h0
 rw [Nat.zero_add] at h
 refine List.ext_getElem? (fun j=>?_)
 rcases Nat.lt_or_ge j 19 with hj | hj
 · obtain ⟨q,hq⟩:=zie ⟨j,hj⟩
   dsimp only at hq
   have e:(zdR lens (List.replicate 19 0) 0 t).getD j 0=lens.getD j 0:=by
    rw [← hq]
    rcases Nat.lt_or_ge q.val t with h1 | h1
    · exact h.done q.val h1
    · rw [h.rest q.val h1 q.isLt,ht.zero q.val h1 q.isLt]
   rw [List.getD_eq_getElem?_getD,List.getD_eq_getElem?_getD,List.getElem?_eq_getElem (by rw [h.len]; exact hj),List.getElem?_eq_getElem (by omega)] at e
   rw [List.getElem?_eq_getElem (by rw [h.len]; exact hj),List.getElem?_eq_getElem (by omega)]
   exact congrArg some e
 · rw [List.getElem?_eq_none (by rw [h.len]; exact hj),List.getElem?_eq_none (by omega)]
theorem zbB (s:StpD):1≤jA s:=by unfold jA; split; omega; split; omega; split<;>omega
theorem Wk (out:List Nat) (s:StpD):(jR out s).length=out.length+jA s:=by unfold jR; rw [List.length_append,List.length_replicate]
theorem za5 : ∀ (l:List StpD) (out:List Nat),out.length≤(l.foldl jR out).length
 | [],out=>Nat.le_refl _
 | s::l,out=>by
   have:=za5 l (jR out s)
   rw [Wk] at this
   rw [List.foldl_cons]
   omega
theorem zfC {T:List Bool} {a:Nat} {out:List Nat} {s:StpD} (h:OkS out s) (hs:StandsAt T a (low s.bits s.more)):qS (yw T) s.sym out a = .ok ((jA s,zhi out s),a+s.bits):=by
 obtain ⟨h18,hb,hm,hne,hr⟩:=h
 have e:=qj hs (by rw [hb]; exact hm)
 unfold qS
 by_cases h15:15<s.sym
 · rw [if_pos h15]
   unfold kO jA zhi
   by_cases h16:s.sym=16
   · have hb2:s.bits=2:=by rw [hb,h16]; rfl
     rw [hb2] at e ⊢
     rw [if_pos h16,if_neg (hne h16),e,if_pos h16,if_pos h16]
     show Except.ok ((3+s.more,out.getLastD 0),a+2)=_
     have hl:out.getLastD 0=out.getD (out.length-1) 0:=by
      have hn:=hne h16
      rw [List.getLastD_eq_getLast?,List.getLast?_eq_getElem?,List.getD_eq_getElem?_getD]
     rw [hl]
   · by_cases h17:s.sym=17
     · have hb2:s.bits=3:=by rw [hb,h17]; rfl
       rw [hb2] at e ⊢
       rw [if_neg h16,if_pos h17,e,if_neg h16,if_pos h17,if_neg h16,if_pos h17]
       rfl
     · have h18e:s.sym=18:=by omega
       have hb2:s.bits=7:=by rw [hb,h18e]; rfl
       rw [hb2] at e ⊢
       rw [if_neg h16,if_neg h17,e,if_neg h16,if_neg h17,if_pos h18e,if_neg h16,if_neg h17,if_pos h18e]
       rfl
 · have hb2:s.bits=0:=by rw [hb]; unfold Qo; rw [if_pos (by omega)]
   rw [if_neg h15,hb2]
   unfold jA zhi
   rw [if_neg (by omega),if_neg (by omega),if_neg (by omega),if_neg (by omega),if_neg (by omega),if_neg (by omega)]
   rfl
theorem zaH (lens:List Nat) (hc:CodeOk lens) (T:List Bool) (many:Nat) : ∀ (l:List StpD) (f:Nat) (out:List Nat) (a:Nat),WJ out l→(l.foldl jR out).length=many→l.length≤f→(∀ s∈l,lens.getD s.sym 0≠0) →
 StandsAt T a (xk lens l)→jd (ints lens) (yw T) many f out a = .ok (l.foldl jR out,a+(xk lens l).length)
 | [],f,out,a,_,hm,_,_,_=>by
   rw [Xs (by rw [← hm]; exact Nat.lt_irrefl _)]
   rfl
 | s::l,0,out,a,_,_,hf,_,_=>by simp at hf
 | s::l,f+1,out,a,hk,hm,hf,hs,hT=>by
   have hsp:xk lens (s::l)=QY lens s++xk lens l:=rfl
   rw [hsp] at hT ⊢
   obtain ⟨h1,h2⟩:=hT.app
   unfold QY at h1
   obtain ⟨h3,h4⟩:=h1.app
   have e1:=Qg hc (hs s List.mem_cons_self) h3
   have e2:=zfC hk.1 h4
   have hg:=za5 l (jR out s)
   rw [List.foldl_cons] at hm
   have htp:=zbB s
   rw [Wk] at hg
   have hsl:(QY lens s).length=(zs lens s.sym).length+s.bits:=by unfold QY; rw [List.length_append,ze]
   have ih:=zaH lens hc T many l f (jR out s) (a+(zs lens s.sym).length+s.bits) hk.2 hm (by simpa using hf) (fun u hu=>hs u (List.mem_cons_of_mem _ hu)) (by rw [Nat.add_assoc,← hsl]; exact h2)
   unfold jd
   rw [if_pos (by omega),e1]
   dsimp only
   rw [e2]
   dsimp only
   rw [if_pos (by omega)]
   show jd (ints lens) (yw T) many f (jR out s) _=_
   rw [ih,List.foldl_cons,List.length_append,hsl]
   congr 2
   omega
theorem zbj {l:List Tok} {lits backs lens:List Nat} {steps:List StpD} {t:Nat} (hM:MadeO l lits backs steps lens) (ht:ToldO lens t) (hl:(zk l).1.length=286∧(zk l).2.length=30) (hok : ∀ t∈l,zr t)
 {T:List Bool} {a:Nat} (h:StandsAt T a (vm lits.length backs.length t lens steps)):xV (yw T) a = .ok ((lits,backs),a+(vm lits.length backs.length t lens steps).length):=by
 obtain ⟨m1,m1',m2,m2',x15,y15,hsy,hl7,hl19,hsl⟩:=hM.bd hl
 have hlaw:=hM.law hl hok
 have hpl:=hM.plan hl hok
 have hlo:=ht.lo
 have hhi:=ht.hi
 unfold vm XZ at h
 obtain ⟨h1,hst⟩:=h.app
 obtain ⟨h2,hln⟩:=h1.app
 obtain ⟨h3,h4⟩:=h2.app
 obtain ⟨h5,h6⟩:=h3.app
 simp only [List.length_append,ze] at h4 h6 hln hst
 have e1:=qj h5 (by omega)
 have e2:=qj h6 (by omega)
 have e3:=qj h4 (by omega)
 have hll:=ky lens t hhi
 rw [zfa lens t hhi] at hln
 have e4:=Yu lens (fun j=>jV hl7 j) T t 0 (List.replicate 19 0) _ hln
 rw [zfV hl19 ht] at e4
 have hcl:CodeOk lens:=⟨by rw [hlaw.okC]; omega,by rw [hlaw.okC]; omega⟩
 have hdl:(steps.foldl jR []).length=lits.length+backs.length:=by
  have:=hlaw.dec.2
  unfold zhU at this
  rw [this,List.length_append]
 have hd:steps.foldl jR []=lits++backs:=hlaw.dec.2
 have e5:=zaH lens hcl T (lits.length+backs.length) steps (lits.length+backs.length) [] _ hlaw.dec.1 hdl (by rw [hM.s]; exact We _ _ _) (fun s hs=>by have:=(hlaw.sy s hs).2.1; omega) hst
 rw [hd] at e5
 rw [hll] at e5
 unfold xV
 rw [qF e1]
 dsimp only
 rw [show a+5=a+(5:Nat) from rfl,qF e2]
 dsimp only
 rw [show a+5+5=a+(5+5) by omega,qF e3]
 dsimp only
 unfold jz
 rw [show 257+(lits.length-257)=lits.length by omega,show 1+(backs.length-1)=backs.length by omega,show 4+(t-4)=t by omega,if_pos ⟨by omega,by omega⟩]
 rw [show a+(5+5)+4=a+(5+5+4) by omega,e4]
 show qC (yw T) lits.length backs.length (lens,a+(5+5+4)+3*t)=_
 unfold qC
 dsimp only
 rw [if_pos hlaw.okC,show a+(5+5+4)+3*t=a+(5+5+4+3*t) by omega,e5]
 show ko lits.length (lits++backs,_)=_
 unfold ko
 dsimp only
 have h256:(lits++backs).getD 256 0=lits.getD 256 0:=by
  rw [List.getD_eq_getElem?_getD,List.getElem?_append_left (by omega),List.getD_eq_getElem?_getD]
 rw [List.take_left,List.drop_left,h256,if_pos ⟨by have:=hpl.coded.fin; omega,hlaw.okA⟩,if_pos hlaw.okB]
 have e:(vm lits.length backs.length t lens steps).length=5+5+4+3*t+(xk lens steps).length:=by
  unfold vm XZ
  simp only [List.length_append,ze]
  omega
 rw [e]
 congr 2
 omega
end Go.Proofs.YtfkcdnaghndgfaaGreatDoor
