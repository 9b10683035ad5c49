/- What a block's bits are read as (plain): numbers, symbols, tokens. -/
import Derived.Test.YtfkcdnaghndgfaaGreatDoorQAL
import Derived.Test.YtfkcdnaghndgfaaGreatDoorQBP
import Derived.Test.YtfkcdnaghndgfaaGreatDoorQBE
import Derived.Test.YtfkcdnaghndgfaaGreatDoorQBJ
import Derived.Test.YtfkcdnaghndgfaaGreatDoorQAE
import Derived.Test.YtfkcdnaghndgfaaGreatDoorQBS
import Derived.Test.YtfkcdnaghndgfaaGreatDoorQAM
set_option linter.unusedVariables false
set_option linter.unusedSimpArgs false
set_option linter.unusedSectionVars false
namespace Go.Proofs.YtfkcdnaghndgfaaGreatDoor
structure StandsAt (T:List Bool) (a:Nat) (M:List Bool):Prop where
 eq:(T.drop a).take M.length=M
 le:a+M.length≤T.length
theorem StandsAt.cut {T M:List Bool} {a:Nat} (h:StandsAt T a M):T=T.take a++M++T.drop (a+M.length)∧(T.take a).length=a:=by
 have hl:=h.le
 have h1:T=T.take a++T.drop a:=(List.take_append_drop a T).symm
 have h2:T.drop a=M++T.drop (a+M.length):=by
  conv=>lhs; rw [← List.take_append_drop M.length (T.drop a),h.eq,List.drop_drop]
 refine ⟨?_,by rw [List.length_take]; omega⟩
 rw [List.append_assoc,← h2]
 exact h1
theorem StandsAt.mk' (A M B:List Bool):StandsAt (A++M++B) A.length M :=
 ⟨by rw [List.append_assoc,List.drop_left,List.take_append_of_le_length (Nat.le_refl _),List.take_length],by simp⟩
theorem StandsAt.app {T M N:List Bool} {a:Nat} (h:StandsAt T a (M++N)):StandsAt T a M∧StandsAt T (a+M.length) N:=by
 obtain ⟨h1,h2⟩:=h.cut
 have hl:=h.le
 rw [List.length_append] at hl
 constructor
 · have:=StandsAt.mk' (T.take a) M (N++T.drop (a+(M++N).length))
   rw [h2] at this
   rwa [← List.append_assoc,List.append_assoc (T.take a) M N,← h1] at this
 · have:=StandsAt.mk' (T.take a++M) N (T.drop (a+(M++N).length))
   have e:(T.take a++M).length=a+M.length:=by rw [List.length_append,h2]
   rw [e] at this
   rwa [List.append_assoc (T.take a) M N,← h1] at this
def yA (T:List Bool):ByteArray:=zf (pack T)
theorem qd {T:List Bool} {a n v:Nat} (h:StandsAt T a (low n v)) (hv:v<2^n):zG (yA T) a n = .ok (v,a+n):=by
 obtain ⟨h1,h2⟩:=h.cut
 have hl:=h.le
 rw [ze] at hl
 unfold zG yA
 rw [if_pos (by rw [jm]; omega)]
 have:=YZ (T.take a) (low n v) (T.drop (a+(low n v).length)) n 0 (by rw [ze]; omega)
 rw [← h1,h2,Nat.add_zero,List.drop_zero,List.take_of_length_le (by rw [ze]; exact Nat.le_refl _),Qg,Nat.mod_eq_of_lt hv] at this
 rw [this]
structure CodeOk (n:List Nat):Prop where
 not3:zp (ints n)≠3
 not0:zp (ints n)≠0
theorem zii (l:List Nat):zk (ints l)=l:=by
 unfold zk ints
 rw [List.map_map]
 have:(Int.toNat∘fun x:Nat=>(x:Int))=id:=by funext x; simp
 rw [this,List.map_id]
theorem Qk {T:List Bool} {a S:Nat} {n:List Nat} (hc:CodeOk n) (h0:n.getD S 0≠0) (h:StandsAt T a (zq n S)):xc (ints n) (yA T) a = .ok (S,a+(zq n S).length):=by
 obtain ⟨hok,hps⟩:=xC hc.not3
 have h15:=Jj hok
 rw [zii] at hps h15
 have hS:S<n.length:=by
  rcases Nat.lt_or_ge S n.length with h | h
  · exact h
  · rw [List.getD_eq_getElem?_getD,List.getElem?_eq_none h] at h0
    exact absurd rfl h0
 obtain ⟨h1,h2⟩:=h.cut
 have hn:=zfL n (T.take a) (T.drop (a+(zq n S).length)) S hps h15 hS h0
 rw [← h1,List.length_append,h2] at hn
 unfold xc yA
 rw [if_neg (by rintro (h | h); exact hc.not3 h; exact hc.not0 h),zii,hn]
theorem Wt (s:List Nat) (far:Nat) : ∀ k,xS far k s=je s far k
 | 0=>rfl
 | k+1=>by rw [XP,vj,Wt s far k]
theorem zd4 : ∀ L:Fin 259,3≤L.val→vw ((257+(ya L.val 29 0).getD 0:Nat):Int) ((L.val-lAt.getD ((ya L.val 29 0).getD 0) 0:Nat):Int)=some L.val∧L.val-lAt.getD ((ya L.val 29 0).getD 0) 0<2^qq.getD ((ya L.val 29 0).getD 0) 0:=by decide +kernel
theorem zep : ∀ c:Fin 29,yF ((257+c.val:Nat):Int)=((qq.getD c.val 0:Nat):Int):=by decide +kernel
theorem YU : ∀ c:Fin 30,xI ((c.val:Nat):Int)=((dBt c.val:Nat):Int):=by decide +kernel
theorem zaE {n:Nat} : ∀ (m i z:Nat),qb n m i=some z→isD n z∧i≤z∧z<i+m
 | 0,i,z,h=>by cases h
 | m+1,i,z,h=>by
   rw [JI] at h
   split at h
   · rename_i hi
     cases h
     exact ⟨hi,by omega,by omega⟩
   · obtain ⟨h1,h2,h3⟩:=zaE m (i+1) z h
     exact ⟨h1,by omega,by omega⟩
theorem zgZ {K z:Nat} (h:qb K 30 0=some z):Jy 1 2 4 30 ((z:Nat):Int) ((K-dAt.getD z 0:Nat):Int)=some K∧K-dAt.getD z 0<2^dBt z:=by
 obtain ⟨h1,_,h3⟩:=zaE 30 0 z h
 obtain ⟨t1,t2,t3⟩:=Xx ⟨z,by omega⟩
 dsimp only at t1 t2 t3
 unfold isD at h1
 have hlt:K-dAt.getD z 0<2^dBt z:=by rw [← t1]; omega
 refine ⟨?_,hlt⟩
 have hb:=YU ⟨z,by omega⟩
 dsimp only at hb
 have hb2:zA 2 4 30 ((z:Nat):Int)=((dBt z:Nat):Int):=hb
 have hneg : ¬ (((dBt z:Nat):Int) = -1∨((K-dAt.getD z 0:Nat):Int)<0∨(2:Int)^((dBt z:Nat):Int).toNat≤((K-dAt.getD z 0:Nat):Int)):=by
  rintro (h | h | h)
  · omega
  · omega
  · rw [Int.toNat_natCast] at h
    have e2:((2:Int)^dBt z)=((2^dBt z:Nat):Int):=by simp
    obtain ⟨p,hp⟩ : ∃ p,2^dBt z=p:=⟨_,rfl⟩
    rw [hp] at hlt e2
    rw [e2] at h
    omega
 unfold Jy
 rw [hb2,if_neg hneg]
 simp only [Int.toNat_natCast]
 rw [t2]
 congr 1
 omega
theorem qz {α:Type} {s:ByteArray} {a n v:Nat} (h:zG s a n = .ok (v,a+n)) (f:Nat×Nat→Except Nat α):(zG s a n >>= f)=f (v,a+n):=by rw [h]; rfl
theorem Jq : ∀ (l:List Tok) (s r:List Nat),zJ l s=some r→s.length≤r.length
 | [],s,r,h=>by have:s=r:=by simpa [zJ] using h
                rw [this]; exact Nat.le_refl _
 | t::l,s,r,h=>by
   rw [yw] at h
   split at h
   · split at h
     · cases h
     · have:=Jq l _ r h
       rw [List.length_append] at this
       omega
   · split at h
     · cases h
     · have:=Jq l _ r h
       rw [Jo] at this
       omega
theorem zfE {t:Tok} (h:zo t) (h0 : ¬ t.long=0):(ya t.long.toNat 29 0).getD 0<29:=by
 unfold zo at h
 have:=vY ⟨t.long.toNat,by omega⟩ (show 3≤t.long.toNat by omega)
 dsimp only at this
 cases e:ya t.long.toNat 29 0 with
 | none=>simp
 | some r=>rw [e] at this; simp at this; simpa using this
theorem Jr (na nb:List Nat) (ca:CodeOk na) (most:Nat) (T:List Bool) : ∀ (l:List Tok) (out r:List Nat) (a g:Nat),(∀ t∈l,zo t)→Coded na nb l→((∃ t∈l,t.long≠0)→CodeOk nb)→zJ l out=some r→r.length≤most→l.length<g →
 StandsAt T a (xZ na nb l)→xu (ints na) (ints nb) (yA T) most g out a = .ok (r,a+(xZ na nb l).length)
 | [],out,r,a,g+1,_,hc,_,he,_,_,hs=>by
   have he2:out=r:=by simpa [zJ] using he
   subst he2
   have h:=Qk ca hc.fin hs
   show (xc (ints na) (yA T) a >>= _)=_
   rw [h]
   rfl
 | t::l,out,r,a,g+1,hok,hc,hcb,he,hm,hg,hs=>by
   have ht:=hok t List.mem_cons_self
   have hok2 : ∀ u∈l,zo u:=fun u hu=>hok u (List.mem_cons_of_mem _ hu)
   have hc2:Coded na nb l:=⟨hc.fin,fun u hu=>hc.lit u (List.mem_cons_of_mem _ hu),fun u hu=>hc.bak u (List.mem_cons_of_mem _ hu)⟩
   have hcb2:(∃ u∈l,u.long≠0)→CodeOk nb:=fun ⟨u,hu,h⟩=>hcb ⟨u,List.mem_cons_of_mem _ hu,h⟩
   obtain ⟨hs1,hs2⟩:=StandsAt.app (M:=kr na nb t) (N:=xZ na nb l) hs
   have hle:r.length≤most:=hm
   have hlen:(xZ na nb (t::l)).length=(kr na nb t).length+(xZ na nb l).length:=List.length_append
   rw [yw] at he
   have hgrow:=Jq l
   show (xc (ints na) (yA T) a >>= _)=_
   by_cases h0:t.long=0
   · rw [if_pos h0] at he
     split at he
     · cases he
     · have htb:kr na nb t=zq na t.byte:=by unfold kr; rw [if_pos h0]
       have hlc:xx t=t.byte:=by unfold xx; rw [if_pos h0]
       have hcl:=hc.lit t List.mem_cons_self
       rw [hlc] at hcl
       rw [htb] at hs1 hs2 hlen
       have h:=Qk ca hcl hs1
       have hb:t.byte<256:=by unfold zo at ht; omega
       have ih:=Jr na nb ca most T l (out++[t.byte]) r (a+(zq na t.byte).length) g hok2 hc2 hcb2 he hm (by simp at hg; omega) hs2
       have hro:=hgrow _ _ he
       rw [h]
       show jl (ints nb) (yA T) most (xu (ints na) (ints nb) (yA T) most g) out (t.byte,a+(zq na t.byte).length)=_
       unfold jl
       dsimp only
       rw [if_neg (by omega),if_pos hb,if_pos (by rw [List.length_append] at hro; simp at hro; omega),ih,hlen,Nat.add_assoc]
   · rw [if_neg h0] at he
     split at he
     · cases he
     · rename_i hbad
       have h3:3≤t.long∧t.long≤258∧1≤t.back∧t.back≤32768:=by unfold zo at ht; omega
       have hfar:t.back.toNat≤out.length:=by unfold Js at hbad; omega
       have CB:=hcb ⟨t,List.mem_cons_self,h0⟩
       have hl:=zd4 ⟨t.long.toNat,by omega⟩ (by show 3≤t.long.toNat; omega)
       dsimp only at hl
       obtain ⟨z,hz,hz30⟩:=qD t.back.toNat (by omega) (by omega)
       have hn:=zgZ hz
       have hlc:xx t=257+(ya t.long.toNat 29 0).getD 0:=by unfold xx; rw [if_neg h0]
       have hbc:xK t=z:=by unfold xK; rw [hz]; rfl
       have hcl:=hc.lit t List.mem_cons_self
       have hcbk:=hc.bak t List.mem_cons_self h0
       have hr29:(ya t.long.toNat 29 0).getD 0<29:=zfE ht h0
       have hlb:=zep ⟨_,hr29⟩
       have hbb:=YU ⟨z,hz30⟩
       dsimp only at hlb hbb
       have htb:kr na nb t=zq na (xx t)++(low (qq.getD ((ya t.long.toNat 29 0).getD 0) 0) (t.long.toNat-lAt.getD ((ya t.long.toNat 29 0).getD 0) 0)++(zq nb (xK t)++low (dBt (xK t)) (t.back.toNat-dAt.getD (xK t) 0))):=by unfold kr; rw [if_neg h0]
       rw [hlc,hbc] at htb
       rw [hlc] at hcl
       rw [hbc] at hcbk
       generalize (ya t.long.toNat 29 0).getD 0=q at *
       rw [htb] at hs1 hs2 hlen
       obtain ⟨k1,k2⟩:=hs1.app
       obtain ⟨k3,k4⟩:=k2.app
       obtain ⟨k5,k6⟩:=k4.app
       have e1:=Qk ca hcl k1
       have e2:=qd k3 hl.2
       have e3:=Qk CB hcbk k5
       have e4:=qd k6 hn.2
       rw [ze] at e3 e4 k5 k6
       simp only [List.length_append,ze] at hs2 hlen
       have ih:=Jr na nb ca most T l _ r _ g hok2 hc2 hcb2 he hm (by simp at hg; omega) hs2
       have hro:=hgrow _ _ he
       rw [Jo] at hro
       rw [e1]
       show jl (ints nb) (yA T) most (xu (ints na) (ints nb) (yA T) most g) out (257+q,a+(zq na (257+q)).length)=_
       unfold jl
       dsimp only
       rw [if_neg (by omega),if_neg (by omega)]
       have hcp:vG (ints nb) (yA T) most (257+q) out (a+(zq na (257+q)).length) = .ok (je out t.back.toNat t.long.toNat,a+((zq na (257+q)).length+(qq.getD q 0+((zq nb z).length+dBt z)))):=by
        unfold vG
        rw [hlb,if_neg (by omega),Int.toNat_natCast,qz e2]
        unfold qR
        dsimp only
        rw [hl.1]
        dsimp only
        rw [e3]
        show qS (yA T) most t.long.toNat out (z,a+(zq na (257+q)).length+qq.getD q 0+(zq nb z).length)=_
        unfold qS
        dsimp only
        rw [hbb,if_neg (by omega),Int.toNat_natCast,qz e4]
        unfold Jg
        dsimp only
        rw [hn.1]
        dsimp only
        rw [if_pos hfar,if_pos (by omega),Wt]
        simp only [Nat.add_assoc]
       rw [hcp]
       show xu (ints na) (ints nb) (yA T) most g (je out t.back.toNat t.long.toNat) _=_
       rw [ih,hlen]
       simp only [Nat.add_assoc]
end Go.Proofs.YtfkcdnaghndgfaaGreatDoor
namespace Go.Proofs.YtfkcdnaghndgfaaGreatDoor
open Go.RowKit
theorem zdm {A F:List Bool} {T:ByteArray} (h:zO A++zj (zc T) <+: F):jd (zf (pack F)) A.length false (T.size:Int)=false∧jT (zf (pack F)) A.length false (T.size:Int)=T∧QC (zf (pack F)) A.length false (T.size:Int)=(zO A++zj (zc T)).length:=by
 obtain ⟨B,hB⟩:=h
 have hal:=zU A
 have hlT:(zc T).length=T.size:=zd T
 have hl:8*((A.length+7)/8)+8*T.size≤F.length:=by rw [← hB,List.length_append,List.length_append,hal,zK,hlT]; omega
 have hbad:jd (zf (pack F)) A.length false (T.size:Int)=false:=by
  unfold jd
  rw [jm,decide_eq_false (by omega),decide_eq_false (by omega)]
  rfl
 refine ⟨hbad,?_,?_⟩
 · unfold jT
   rw [hbad,if_neg (by simp),Int.toNat_natCast]
   obtain ⟨q,hq⟩ : ∃ q,(A.length+7)/8=q:=⟨_,rfl⟩
   rw [hq] at hal hl ⊢
   have h1:xB F (q+T.size)=xB (zO A) q++zc T:=by
    rw [← hB,vT _ _ _ (by rw [List.length_append,hal,zK,hlT]; omega),← hlT]
    exact VA (zO A) q hal (zc T) (fun x hx=>by
     unfold zc at hx; obtain ⟨c,_,rfl⟩:=List.mem_map.1 hx; exact c.toNat_lt)
   have h2:pack F=xB F (q+T.size)++(pack F).drop (q+T.size):=by
    conv=>lhs; rw [← List.take_append_drop (q+T.size) (pack F)]
    congr 1
    unfold pack xB
    rw [← List.map_take,List.take_range,Nat.min_eq_left (by omega)]
   have h3:pack F=xB (zO A) q++(zc T++(pack F).drop (q+T.size)):=by rw [← List.append_assoc,← h1]; exact h2
   have ho:(xB (zO A) q).length=q:=vW _ _
   apply ByteArray.ext
   apply Array.ext'
   rw [ByteArray.data_extract,Array.toList_extract]
   show List.extract (zf (pack F)).data.toList q (q+T.size)=T.data.toList
   have h4:(zf (pack F)).data.toList=(pack F).map UInt8.ofNat:=by simp [zf]
   rw [h4,h3,List.extract_eq_take_drop,List.map_append,List.drop_left' (by rw [List.length_map,ho]),List.map_append,List.take_left' (by rw [List.length_map,hlT]; omega)]
   have h5:=congrArg (fun s:ByteArray=>s.data.toList) (zx T)
   simpa [zf] using h5
 · unfold QC
   rw [hbad,if_neg (by simp),Int.toNat_natCast,List.length_append,hal,zK,hlT]
end Go.Proofs.YtfkcdnaghndgfaaGreatDoor
namespace Go.Proofs.YtfkcdnaghndgfaaGreatDoor
theorem zg3:yv=yY:=rfl
def zck (lens:List Nat):Nat→Nat→List Bool
 | _,0=>[]
 | i,m+1=>low 3 (lens.getD (yv.getD i 0) 0)++zck lens (i+1) m
theorem zcQ (lens:List Nat) : ∀ (m i:Nat),i+m≤19→((yv.drop i).take m).flatMap (fun j=>low 3 (lens.getD j 0))=zck lens i m
 | 0,i,_=>by simp [zck]
 | m+1,i,h=>by
   have hi:i<yv.length:=by show i<19; omega
   have e:yv.getD i 0=yv[i]:=by rw [List.getD_eq_getElem?_getD,List.getElem?_eq_getElem hi]; rfl
   rw [List.drop_eq_getElem_cons hi,List.take_succ_cons,List.flatMap_cons,zcQ lens m (i+1) (by omega),zck,e]
theorem zeL (lens:List Nat) (t:Nat) (h:t≤19):vM lens t=zck lens 0 t:=by
 have:=zcQ lens t 0 (by omega)
 rw [List.drop_zero] at this
 exact this
def zeR (lens:List Nat):List Nat→Nat→Nat→List Nat
 | L,_,0=>L
 | L,i,m+1=>zeR lens (L.set (yY.getD i 0) (lens.getD (yv.getD i 0) 0)) (i+1) m
theorem XV (lens:List Nat) (h7 : ∀ j,lens.getD j 0≤7) (T:List Bool) : ∀ (m i:Nat) (L:List Nat) (a:Nat),StandsAt T a (zck lens i m)→km (yA T) m i L a = .ok (zeR lens L i m,a+3*m)
 | 0,i,L,a,_=>rfl
 | m+1,i,L,a,h=>by
   obtain ⟨h1,h2⟩:=StandsAt.app (M:=low 3 (lens.getD (yv.getD i 0) 0)) (N:=zck lens (i+1) m) h
   have e:=qd h1 (by have:=h7 (yv.getD i 0); omega)
   rw [ze] at h2
   unfold km
   rw [e]
   dsimp only
   rw [XV lens h7 T m (i+1) _ (a+3) h2,zeR]
   congr 2
   omega
theorem zc7 : ∀ p q:Fin 19,yv.getD p.val 0=yv.getD q.val 0→p=q:=by decide +kernel
theorem zhe : ∀ j:Fin 19,∃ q:Fin 19,yv.getD q.val 0=j.val:=by decide +kernel
structure FInv (lens L:List Nat) (i:Nat):Prop where
 len:L.length=19
 done : ∀ q,q<i→L.getD (yv.getD q 0) 0=lens.getD (yv.getD q 0) 0
 rest : ∀ q,i≤q→q<19→L.getD (yv.getD q 0) 0=0
theorem FInv.step {lens L:List Nat} {i:Nat} (h:FInv lens L i) (hi:i<19):FInv lens (L.set (yY.getD i 0) (lens.getD (yv.getD i 0) 0)) (i+1):=by
 have hs:yY.getD i 0=yv.getD i 0:=by rw [zg3]
 rw [hs]
 have hj:yv.getD i 0<L.length:=by rw [h.len]; exact (Kk ⟨i,hi⟩).1
 refine ⟨by rw [List.length_set]; exact h.len,fun q hq=>?_,fun q h1 h2=>?_⟩
 · by_cases e:q=i
   · subst e
     rw [List.getD_eq_getElem?_getD,List.getElem?_set_self hj]
     rfl
   · have hne:yv.getD i 0≠yv.getD q 0:=fun e2=>e (by have:=zc7 ⟨i,hi⟩ ⟨q,by omega⟩ e2; cases this; rfl)
     rw [List.getD_eq_getElem?_getD,List.getElem?_set_ne hne,← List.getD_eq_getElem?_getD]
     exact h.done q (by omega)
 · have hne:yv.getD i 0≠yv.getD q 0:=fun e2=>by have:=zc7 ⟨i,hi⟩ ⟨q,h2⟩ e2; cases this; omega
   rw [List.getD_eq_getElem?_getD,List.getElem?_set_ne hne,← List.getD_eq_getElem?_getD]
   exact h.rest q (by omega) h2
theorem WK (lens:List Nat) : ∀ (m i:Nat) (L:List Nat),i+m≤19→FInv lens L i→FInv lens (zeR lens L i m) (i+m)
 | 0,i,L,_,h=>h
 | m+1,i,L,hm,h=>by
   have:=WK lens m (i+1) _ (by omega) (h.step (by omega))
   rw [show i+(m+1)=i+1+m by omega]
   exact this
theorem zfM {lens:List Nat} {t:Nat} (hl:lens.length=19) (ht:ToldO lens t):zeR lens (List.replicate 19 0) 0 t=lens:=by
 have h0:FInv lens (List.replicate 19 0) 0:=⟨List.length_replicate,fun q hq=>by omega,fun q _ hq=>by rw [List.getD_eq_getElem?_getD,List.getElem?_replicate]; split<;>rfl⟩
 have h:=WK lens t 0 _ (by have:=ht.hi; omega) h0
 rw [Nat.zero_add] at h
 refine List.ext_getElem? (fun j=>?_)
 rcases Nat.lt_or_ge j 19 with hj | hj
 · obtain ⟨q,hq⟩:=zhe ⟨j,hj⟩
   dsimp only at hq
   have e:(zeR lens (List.replicate 19 0) 0 t).getD j 0=lens.getD j 0:=by
    rw [← hq]
    rcases Nat.lt_or_ge q.val t with h1 | h1
    · exact h.done q.val h1
    · rw [h.rest q.val h1 q.isLt,ht.zero q.val h1 q.isLt]
   rw [List.getD_eq_getElem?_getD,List.getD_eq_getElem?_getD,List.getElem?_eq_getElem (by rw [h.len]; exact hj),List.getElem?_eq_getElem (by omega)] at e
   rw [List.getElem?_eq_getElem (by rw [h.len]; exact hj),List.getElem?_eq_getElem (by omega)]
   exact congrArg some e
 · rw [List.getElem?_eq_none (by rw [h.len]; exact hj),List.getElem?_eq_none (by omega)]
theorem zbX (s:StpD):1≤jM s:=by unfold jM; split; omega; split; omega; split<;>omega
theorem zae (out:List Nat) (s:StpD):(jP out s).length=out.length+jM s:=by unfold jP; rw [List.length_append,List.length_replicate]
theorem WW : ∀ (l:List StpD) (out:List Nat),out.length≤(l.foldl jP out).length
 | [],out=>Nat.le_refl _
 | s::l,out=>by
   have:=WW l (jP out s)
   rw [zae] at this
   rw [List.foldl_cons]
   omega
theorem zf3 {T:List Bool} {a:Nat} {out:List Nat} {s:StpD} (h:OkS out s) (hs:StandsAt T a (low s.bits s.more)):Jv (yA T) s.sym out a = .ok ((jM s,zfQ out s),a+s.bits):=by
 obtain ⟨h18,hb,hm,hne,hr⟩:=h
 have e:=qd hs (by rw [hb]; exact hm)
 unfold Jv
 by_cases h15:15<s.sym
 · rw [if_pos h15]
   unfold xz jM zfQ
   by_cases h16:s.sym=16
   · have hb2:s.bits=2:=by rw [hb,h16]; rfl
     rw [hb2] at e ⊢
     rw [if_pos h16,if_neg (hne h16),e,if_pos h16,if_pos h16]
     show Except.ok ((3+s.more,out.getLastD 0),a+2)=_
     have hl:out.getLastD 0=out.getD (out.length-1) 0:=by
      have hn:=hne h16
      rw [List.getLastD_eq_getLast?,List.getLast?_eq_getElem?,List.getD_eq_getElem?_getD]
     rw [hl]
   · by_cases h17:s.sym=17
     · have hb2:s.bits=3:=by rw [hb,h17]; rfl
       rw [hb2] at e ⊢
       rw [if_neg h16,if_pos h17,e,if_neg h16,if_pos h17,if_neg h16,if_pos h17]
       rfl
     · have h18e:s.sym=18:=by omega
       have hb2:s.bits=7:=by rw [hb,h18e]; rfl
       rw [hb2] at e ⊢
       rw [if_neg h16,if_neg h17,e,if_neg h16,if_neg h17,if_pos h18e,if_neg h16,if_neg h17,if_pos h18e]
       rfl
 · have hb2:s.bits=0:=by rw [hb]; unfold Qj; rw [if_pos (by omega)]
   rw [if_neg h15,hb2]
   unfold jM zfQ
   rw [if_neg (by omega),if_neg (by omega),if_neg (by omega),if_neg (by omega),if_neg (by omega),if_neg (by omega)]
   rfl
theorem WR (lens:List Nat) (hc:CodeOk lens) (T:List Bool) (many:Nat) : ∀ (l:List StpD) (f:Nat) (out:List Nat) (a:Nat),Ws out l→(l.foldl jP out).length=many→l.length≤f→(∀ s∈l,lens.getD s.sym 0≠0) →
 StandsAt T a (xi lens l)→qp (ints lens) (yA T) many f out a = .ok (l.foldl jP out,a+(xi lens l).length)
 | [],f,out,a,_,hm,_,_,_=>by
   rw [zaS (by rw [← hm]; exact Nat.lt_irrefl _)]
   rfl
 | s::l,0,out,a,_,_,hf,_,_=>by simp at hf
 | s::l,f+1,out,a,hk,hm,hf,hs,hT=>by
   have hsp:xi lens (s::l)=QO lens s++xi lens l:=rfl
   rw [hsp] at hT ⊢
   obtain ⟨h1,h2⟩:=hT.app
   unfold QO at h1
   obtain ⟨h3,h4⟩:=h1.app
   have e1:=Qk hc (hs s List.mem_cons_self) h3
   have e2:=zf3 hk.1 h4
   have hg:=WW l (jP out s)
   rw [List.foldl_cons] at hm
   have htp:=zbX s
   rw [zae] at hg
   have hsl:(QO lens s).length=(zq lens s.sym).length+s.bits:=by unfold QO; rw [List.length_append,ze]
   have ih:=WR lens hc T many l f (jP out s) (a+(zq lens s.sym).length+s.bits) hk.2 hm (by simpa using hf) (fun u hu=>hs u (List.mem_cons_of_mem _ hu)) (by rw [Nat.add_assoc,← hsl]; exact h2)
   unfold qp
   rw [if_pos (by omega),e1]
   dsimp only
   rw [e2]
   dsimp only
   rw [if_pos (by omega)]
   show qp (ints lens) (yA T) many f (jP out s) _=_
   rw [ih,List.foldl_cons,List.length_append,hsl]
   congr 2
   omega
theorem KJ {l:List Tok} {lits backs lens:List Nat} {steps:List StpD} {t:Nat} (hM:MadeO l lits backs steps lens) (ht:ToldO lens t) (hl:(zh l).1.length=286∧(zh l).2.length=30) (hok : ∀ t∈l,zo t)
 {T:List Bool} {a:Nat} (h:StandsAt T a (vr lits.length backs.length t lens steps)):qc (yA T) a = .ok ((lits,backs),a+(vr lits.length backs.length t lens steps).length):=by
 obtain ⟨m1,m1',m2,m2',x15,y15,hsy,hl7,hl19,hsl⟩:=hM.bd hl
 have hlaw:=hM.law hl hok
 have hpl:=hM.plan hl hok
 have hlo:=ht.lo
 have hhi:=ht.hi
 unfold vr XK at h
 obtain ⟨h1,hst⟩:=h.app
 obtain ⟨h2,hln⟩:=h1.app
 obtain ⟨h3,h4⟩:=h2.app
 obtain ⟨h5,h6⟩:=h3.app
 simp only [List.length_append,ze] at h4 h6 hln hst
 have e1:=qd h5 (by omega)
 have e2:=qd h6 (by omega)
 have e3:=qd h4 (by omega)
 have hll:=kz lens t hhi
 rw [zeL lens t hhi] at hln
 have e4:=XV lens (fun j=>ke hl7 j) T t 0 (List.replicate 19 0) _ hln
 rw [zfM hl19 ht] at e4
 have hcl:CodeOk lens:=⟨by rw [hlaw.okC]; omega,by rw [hlaw.okC]; omega⟩
 have hdl:(steps.foldl jP []).length=lits.length+backs.length:=by
  have:=hlaw.dec.2
  unfold zhZ at this
  rw [this,List.length_append]
 have hd:steps.foldl jP []=lits++backs:=hlaw.dec.2
 have e5:=WR lens hcl T (lits.length+backs.length) steps (lits.length+backs.length) [] _ hlaw.dec.1 hdl (by rw [hM.s]; exact Kt _ _ _) (fun s hs=>by have:=(hlaw.sy s hs).2.1; omega) hst
 rw [hd] at e5
 rw [hll] at e5
 unfold qc
 rw [qz e1]
 dsimp only
 rw [show a+5=a+(5:Nat) from rfl,qz e2]
 dsimp only
 rw [show a+5+5=a+(5+5) by omega,qz e3]
 dsimp only
 unfold qf
 rw [show 257+(lits.length-257)=lits.length by omega,show 1+(backs.length-1)=backs.length by omega,show 4+(t-4)=t by omega,if_pos ⟨by omega,by omega⟩]
 rw [show a+(5+5)+4=a+(5+5+4) by omega,e4]
 show JF (yA T) lits.length backs.length (lens,a+(5+5+4)+3*t)=_
 unfold JF
 dsimp only
 rw [if_pos hlaw.okC,show a+(5+5+4)+3*t=a+(5+5+4+3*t) by omega,e5]
 show Za lits.length (lits++backs,_)=_
 unfold Za
 dsimp only
 have h256:(lits++backs).getD 256 0=lits.getD 256 0:=by
  rw [List.getD_eq_getElem?_getD,List.getElem?_append_left (by omega),List.getD_eq_getElem?_getD]
 rw [List.take_left,List.drop_left,h256,if_pos ⟨by have:=hpl.coded.fin; omega,hlaw.okA⟩,if_pos hlaw.okB]
 have e:(vr lits.length backs.length t lens steps).length=5+5+4+3*t+(xi lens steps).length:=by
  unfold vr XK
  simp only [List.length_append,ze]
  omega
 rw [e]
 congr 2
 omega
end Go.Proofs.YtfkcdnaghndgfaaGreatDoor
