/- Package merge (plain): coins, rows, and what the first 2n - 2 coins of the last row weigh: no lengths cost less. -/
set_option linter.unusedVariables false
set_option linter.unusedSimpArgs false
set_option linter.unusedSectionVars false
namespace Go.Proofs.YtfkcdnaghndgfaaGreatDoor
inductive Coin where
 | leaf (w s:Nat)
 | pack (a b:Coin)
def Coin.w:Coin→Nat
 | .leaf w _=>w
 | .pack a b=>a.w+b.w
def Coin.cnt (s:Nat):Coin→Nat
 | .leaf _ t=>if t=s then 1 else 0
 | .pack a b=>a.cnt s+b.cnt s
def yJ (l:List Coin):Nat:=(l.map Coin.w).sum
def jA (s:Nat) (l:List Coin):Nat:=(l.map (Coin.cnt s)).sum
def leC (x y:Coin):Bool:=decide (x.w≤y.w)
def zP (a b:List Coin):List Coin:=List.merge a b leC
def yy:List Coin→List Coin
 | a::b::r => .pack a b::yy r
 | [_]=>[]
 | []=>[]
def zW (lv:List Coin):Nat→List Coin
 | 0=>[]
 | j+1=>zP lv (yy (zW lv j))
theorem qT (a b:List Coin):yJ (a++b)=yJ a+yJ b:=by simp [yJ]
theorem zaZ (s:Nat) (a b:List Coin):jA s (a++b)=jA s a+jA s b:=by simp [jA]
theorem xn (a:Coin) (b:List Coin):yJ (a::b)=a.w+yJ b:=by simp [yJ]
theorem VI (s:Nat) (a:Coin) (b:List Coin):jA s (a::b)=a.cnt s+jA s b:=by simp [jA]
theorem zdA {a b:List Coin} (h:a.Perm b):yJ a=yJ b:=(h.map _).sum_nat
theorem zew {s:Nat} {a b:List Coin} (h:a.Perm b):jA s a=jA s b:=(h.map _).sum_nat
theorem kK (b:List Coin):zP [] b=b:=by unfold zP; rw [List.nil_merge]
theorem ji (a:List Coin):zP a []=a:=by unfold zP; rw [List.merge_right]
theorem kd (x y:Coin) (a b:List Coin):zP (x::a) (y::b)=if x.w≤y.w then x::zP a (y::b) else y::zP (x::a) b:=by
 unfold zP
 rw [List.cons_merge_cons]
 by_cases h:x.w≤y.w
 · rw [if_pos h,if_pos (by unfold leC; exact decide_eq_true h)]
 · rw [if_neg h,if_neg (by unfold leC; simpa using h)]
theorem qI (a b:List Coin):(zP a b).length=a.length+b.length:=by unfold zP; exact List.length_merge ..
theorem yN : ∀ l:List Coin,(yy l).length=l.length/2
 | []=>rfl
 | [_]=>by simp [yy]
 | a::b::r=>by
   show (yy r).length+1=(r.length+2)/2
   rw [yN r]; omega
def vD (l:List Coin):Prop:=l.Pairwise (fun x y=>x.w≤y.w)
theorem WO {a b:List Coin} (ha:vD a) (hb:vD b):vD (zP a b):=by
 induction a generalizing b with
 | nil=>rw [kK]; exact hb
 | cons x a iha =>
   induction b with
   | nil=>rw [ji]; exact ha
   | cons y b ihb =>
     rw [kd]
     have ha':=List.pairwise_cons.1 ha
     have hb':=List.pairwise_cons.1 hb
     by_cases h:x.w≤y.w
     · rw [if_pos h]
       refine List.pairwise_cons.2 ⟨?_,iha ha'.2 hb⟩
       intro z hz
       unfold zP at hz
       rcases List.mem_merge.1 hz with hz | hz
       · exact ha'.1 z hz
       · rcases List.mem_cons.1 hz with rfl | hz
         · exact h
         · exact Nat.le_trans h (hb'.1 z hz)
     · rw [if_neg h]
       refine List.pairwise_cons.2 ⟨?_,ihb hb'.2⟩
       intro z hz
       unfold zP at hz
       rcases List.mem_merge.1 hz with hz | hz
       · rcases List.mem_cons.1 hz with rfl | hz
         · omega
         · have:=ha'.1 z hz; omega
       · exact hb'.1 z hz
theorem Jf : ∀ {l:List Coin} {z:Coin},z∈yy l → ∃ a b,a∈l∧b∈l∧z = .pack a b
 | a::b::r,z,h=>by
   rcases List.mem_cons.1 h with rfl | h
   · exact ⟨a,b,by simp,by simp,rfl⟩
   · obtain ⟨c,d,h1,h2,h3⟩:=Jf h
     exact ⟨c,d,by simp [h1],by simp [h2],h3⟩
theorem kW : ∀ {l:List Coin},vD l→vD (yy l)
 | [],_=>List.Pairwise.nil
 | [_],_=>List.Pairwise.nil
 | a::b::r,h=>by
   have h1:=List.pairwise_cons.1 h
   have h2:=List.pairwise_cons.1 h1.2
   refine List.pairwise_cons.2 ⟨?_,kW h2.2⟩
   intro z hz
   obtain ⟨c,d,hc,hd,rfl⟩:=Jf hz
   have e1:=h1.1 c (by simp [hc])
   have e2:=h2.1 d hd
   show a.w+b.w≤c.w+d.w
   omega
theorem QH {lv:List Coin} (h:vD lv) : ∀ j,vD (zW lv j)
 | 0=>List.Pairwise.nil
 | j+1=>WO h (kW (QH h j))
theorem JP : ∀ (p:Nat) (l:List Coin),2*p≤l.length→yJ ((yy l).take p)=yJ (l.take (2*p))∧(∀ s,jA s ((yy l).take p)=jA s (l.take (2*p))) ∧ ∀ x∈l.take (2*p),∃ y∈(yy l).take p,x.w≤y.w
 | 0,l,_=>by simp [yJ,jA]
 | p+1,l,h=>by
   match l,h with
   | a::b::r,h =>
     have hr:2*p≤r.length:=by simp at h; omega
     obtain ⟨h1,h2,h3⟩:=JP p r hr
     have e:2*(p+1)=2*p+1+1:=by omega
     rw [e]
     simp only [yy,List.take_succ_cons,xn,VI,h1,h2]
     refine ⟨by show a.w+b.w+_=_; omega,fun s=>by show a.cnt s+b.cnt s+_=_; omega,?_⟩
     intro x hx
     rcases List.mem_cons.1 hx with rfl | hx
     · exact ⟨_,List.mem_cons_self,by show x.w≤x.w+b.w; omega⟩
     · rcases List.mem_cons.1 hx with rfl | hx
       · exact ⟨_,List.mem_cons_self,by show x.w≤a.w+x.w; omega⟩
       · obtain ⟨y,hy,hxy⟩:=h3 x hx
         exact ⟨y,List.mem_cons_of_mem _ hy,hxy⟩
theorem zaC : ∀ (a b:List Coin) (c:Nat),vD a→c≤a.length+b.length →
 ∃ t,t≤c∧t≤a.length∧c-t≤b.length∧((zP a b).take c).Perm (a.take t++b.take (c-t))∧(∀ (h:t<a.length),∀ y∈b.take (c-t),y.w<a[t].w):=by
 intro a
 induction a with
 | nil =>
   intro b c _ hc
   refine ⟨0,by omega,by simp,by simpa using hc,?_,fun h=>by simp at h⟩
   rw [kK]; simp
 | cons x a iha =>
   intro b
   induction b with
   | nil =>
     intro c ha hc
     refine ⟨c,by omega,by simpa using hc,by simp,?_,?_⟩
     · rw [ji]; simp
     · intro h y hy; simp at hy
   | cons y b ihb =>
     intro c ha hc
     have ha':=List.pairwise_cons.1 ha
     cases c with
     | zero=>exact ⟨0,by omega,by omega,by omega,by simp,fun h y hy=>by simp at hy⟩
     | succ c =>
       rw [kd]
       by_cases hxy:x.w≤y.w
       · rw [if_pos hxy]
         obtain ⟨t,h1,h2,h3,h4,h5⟩:=iha (y::b) c ha'.2 (by simp at hc ⊢; omega)
         refine ⟨t+1,by omega,by simp; omega,by rw [Nat.add_sub_add_right]; exact h3,?_,?_⟩
         · rw [List.take_succ_cons,List.take_succ_cons,Nat.add_sub_add_right]
           exact List.Perm.cons x h4
         · intro h z hz
           rw [Nat.add_sub_add_right] at hz
           exact h5 (by simpa using h) z hz
       · rw [if_neg hxy]
         obtain ⟨t,h1,h2,h3,h4,h5⟩:=ihb c ha (by simp at hc ⊢; omega)
         have e:c+1-t=(c-t)+1:=by omega
         refine ⟨t,by omega,h2,by rw [e]; simp; omega,?_,?_⟩
         · rw [e,List.take_succ_cons,List.take_succ_cons]
           exact (List.Perm.cons y h4).trans List.perm_middle.symm
         · intro h z hz
           rw [e,List.take_succ_cons] at hz
           rcases List.mem_cons.1 hz with rfl | hz
           · have:x.w≤(x::a)[t].w:=by
              cases t with
              | zero=>exact Nat.le_refl _
              | succ t=>exact ha'.1 _ (List.getElem_mem ..)
             omega
           · exact h5 h z hz
theorem Qo : ∀ (a b:List Coin) (i k:Nat),vD a→vD b→i≤a.length→k≤b.length→yJ ((zP a b).take (i+k))≤yJ (a.take i)+yJ (b.take k):=by
 intro a
 induction a with
 | nil =>
   intro b i k _ _ hi hk
   have:i=0:=by simpa using hi
   subst this
   rw [kK]; simp [yJ]
 | cons x a iha =>
   intro b
   induction b with
   | nil =>
     intro i k _ _ hi hk
     have:k=0:=by simpa using hk
     subst this
     rw [ji]; simp
   | cons y b ihb =>
     intro i k ha hb hi hk
     have ha':=List.pairwise_cons.1 ha
     have hb':=List.pairwise_cons.1 hb
     rw [kd]
     by_cases hxy:x.w≤y.w
     · rw [if_pos hxy]
       cases i with
       | succ i =>
         rw [show i+1+k=(i+k)+1 by omega,List.take_succ_cons,List.take_succ_cons,xn,xn]
         have:=iha (y::b) i k ha'.2 hb (by simpa using hi) hk
         omega
       | zero =>
         cases k with
         | zero=>simp [yJ]
         | succ k =>
           rw [Nat.zero_add,List.take_succ_cons,xn]
           have h1:=iha (y::b) 0 k ha'.2 hb (by omega) (by omega)
           rw [Nat.zero_add] at h1
           have hk':k<(y::b).length:=by omega
           have h2:yJ ((y::b).take (k+1))=yJ ((y::b).take k)+(y::b)[k].w:=by
            rw [List.take_succ_eq_append_getElem hk',qT]; simp [yJ]
           have h3:y.w≤(y::b)[k].w:=by
            cases k with
            | zero=>exact Nat.le_refl _
            | succ k=>exact hb'.1 _ (List.getElem_mem ..)
           rw [h2]
           simp only [List.take_zero] at h1 ⊢
           omega
     · rw [if_neg hxy]
       cases k with
       | succ k =>
         rw [show i+(k+1)=(i+k)+1 by omega,List.take_succ_cons,List.take_succ_cons,xn,xn]
         have:=ihb i k ha hb'.2 hi (by simpa using hk)
         omega
       | zero =>
         cases i with
         | zero=>simp [yJ]
         | succ i =>
           rw [Nat.add_zero,List.take_succ_cons,xn]
           have h1:=ihb i 0 ha hb'.2 (by omega) (by omega)
           rw [Nat.add_zero] at h1
           have hi':i<(x::a).length:=by omega
           have h2:yJ ((x::a).take (i+1))=yJ ((x::a).take i)+(x::a)[i].w:=by
            rw [List.take_succ_eq_append_getElem hi',qT]; simp [yJ]
           have h3:x.w≤(x::a)[i].w:=by
            cases i with
            | zero=>exact Nat.le_refl _
            | succ i=>exact ha'.1 _ (List.getElem_mem ..)
           rw [h2]
           simp only [List.take_zero] at h1 ⊢
           omega
theorem ZC (lv:List Coin) : ∀ (j x:Nat),x*2^j≤2*lv.length*(2^j-1)→x≤(zW lv j).length
 | 0,x,h=>by simp at h; omega
 | j+1,x,h=>by
   show x≤(zP lv (yy (zW lv j))).length
   rw [qI,yN]
   by_cases hx:x≤lv.length
   · omega
   · have hp:0<2^j:=Nat.two_pow_pos j
     have:=ZC lv j (2*(x-lv.length)) (by
      rw [Nat.pow_succ] at h
      generalize 2^j=p at *
      obtain ⟨y,rfl⟩ : ∃ y,x=lv.length+y:=⟨x-lv.length,by omega⟩
      obtain ⟨q,rfl⟩ : ∃ q,p=q+1:=⟨p-1,by omega⟩
      generalize lv.length=n at *
      have e1:n+y-n=y:=by omega
      rw [e1]
      have e2:q+1-1=q:=by omega
      rw [e2]
      have e3:(q+1)*2-1=2*q+1:=by omega
      rw [e3] at h
      simp only [Nat.mul_add,Nat.add_mul,Nat.mul_one,Nat.one_mul] at h ⊢
      have p1:2*y*q=2*(y*q):=Nat.mul_assoc ..
      have p2:2*n*q=2*(n*q):=Nat.mul_assoc ..
      have p3:n*(q*2)=2*(n*q):=by rw [← Nat.mul_assoc,Nat.mul_comm]
      have p4:y*(q*2)=2*(y*q):=by rw [← Nat.mul_assoc,Nat.mul_comm]
      have p5:2*n*(2*q)=4*(n*q):=by
       rw [Nat.mul_assoc,Nat.mul_left_comm n 2 q]; omega
      rw [p3,p4,p5] at h
      rw [p1,p2]
      omega)
     omega
def amt:List Nat→Nat
 | []=>0
 | t::ts=>t*2^ts.length+amt ts
theorem Vn (lv:List Coin) (hr:vD lv) : ∀ (j c:Nat),c≤(zW lv j).length →
 ∃ ts:List Nat,ts.length=j∧(∀ t∈ts,t≤lv.length)∧ts.Pairwise (fun a b=>b≤a)∧2*amt ts=c*2^j ∧
  yJ ((zW lv j).take c)=(ts.map fun t=>yJ (lv.take t)).sum∧(∀ s,jA s ((zW lv j).take c)=(ts.map fun t=>jA s (lv.take t)).sum) ∧
  (∀ t,ts.head? =some t → ∀ x∈lv.take t,x∈(zW lv j).take c)
 | 0,c,h=>by
   have:c=0:=by simpa [zW] using h
   subst this
   exact ⟨[],rfl,by simp,List.Pairwise.nil,by simp [amt],by simp [yJ],by simp [jA],by simp⟩
 | j+1,c,h=>by
   have h':c≤lv.length+(yy (zW lv j)).length:=by
    have e:(zW lv (j+1)).length=_:=qI lv (yy (zW lv j))
    omega
   obtain ⟨t,h1,h2,h3,h4,h5⟩:=zaC lv (yy (zW lv j)) c hr h'
   have h3':2*(c-t)≤(zW lv j).length:=by rw [yN] at h3; omega
   obtain ⟨ts,k1,k2,k3,k4,k5,k6,k7⟩:=Vn lv hr j (2*(c-t)) h3'
   obtain ⟨q1,q2,q3⟩:=JP (c-t) (zW lv j) h3'
   refine ⟨t::ts,by simp [k1],?_,?_,?_,?_,?_,?_⟩
   · intro x hx
     rcases List.mem_cons.1 hx with rfl | hx
     · exact h2
     · exact k2 x hx
   · refine List.pairwise_cons.2 ⟨?_,k3⟩
     have hh : ∀ u,ts.head? =some u→u≤t:=by
      intro u hu
      apply Nat.le_of_not_lt
      intro hlt
      have hul:u≤lv.length:=k2 u (List.mem_of_mem_head? hu)
      have ht:t<lv.length:=by omega
      have hm:lv[t]∈lv.take u:=by
       rw [List.mem_take_iff_getElem]
       exact ⟨t,by omega,rfl⟩
      obtain ⟨y,hy,hyw⟩:=q3 _ (k7 u hu _ hm)
      have:=h5 ht y hy
      omega
     intro b hb
     cases ts with
     | nil=>simp at hb
     | cons u r =>
       have hu:=hh u rfl
       rcases List.mem_cons.1 hb with rfl | hb
       · exact hu
       · exact Nat.le_trans ((List.pairwise_cons.1 k3).1 b hb) hu
   · have e1:2*amt (t::ts)=2*(t*2^j)+2*amt ts:=by simp only [amt,k1]; omega
     rw [e1,k4,Nat.pow_succ]
     obtain ⟨d,rfl⟩ : ∃ d,c=t+d:=⟨c-t,by omega⟩
     rw [show t+d-t=d by omega]
     simp only [Nat.add_mul]
     have p1:t*(2^j*2)=2*(t*2^j):=by rw [← Nat.mul_assoc,Nat.mul_comm]
     have p2:d*(2^j*2)=2*(d*2^j):=by rw [← Nat.mul_assoc,Nat.mul_comm]
     have p3:2*d*2^j=2*(d*2^j):=Nat.mul_assoc ..
     omega
   · show yJ ((zP lv (yy (zW lv j))).take c)=_
     rw [zdA h4,qT,q1,k5]
     simp
   · intro s
     show jA s ((zP lv (yy (zW lv j))).take c)=_
     rw [zew h4,zaZ,q2,k6]
     simp
   · intro u hu x hx
     simp at hu
     subst hu
     exact h4.symm.mem_iff.1 (List.mem_append.2 (.inl hx))
theorem Vp (lv:List Coin) (hr:vD lv) : ∀ (as:List (Nat×Nat)) (c:Nat),(∀ p∈as,p.1≤lv.length∧yJ (lv.take p.1)≤p.2)→c*2^as.length≤2*amt (as.map Prod.fst) →
 c≤(zW lv as.length).length∧yJ ((zW lv as.length).take c)≤(as.map Prod.snd).sum
 | [],c,_,h=>by
   have:c=0:=by simpa [amt] using h
   subst this
   simp [yJ]
 | (a,x)::as,c,hp,h=>by
   obtain ⟨ha,hx⟩:=hp (a,x) List.mem_cons_self
   have ha:a≤lv.length:=ha
   have hx:yJ (lv.take a)≤x:=hx
   have hl:((a,x)::as).length=as.length+1:=rfl
   rw [hl] at h ⊢
   have hmap:amt (((a,x)::as).map Prod.fst)=a*2^as.length+amt (as.map Prod.fst):=by simp [amt]
   rw [hmap,Nat.pow_succ] at h
   show c≤(zP lv (yy (zW lv as.length))).length∧yJ ((zP lv (yy (zW lv as.length))).take c)≤x+(as.map Prod.snd).sum
   rw [qI]
   by_cases hac:c≤a
   · refine ⟨by omega,?_⟩
     have h1:=Qo lv (yy (zW lv as.length)) c 0 hr (kW (QH hr _)) (by omega) (by omega)
     have h2:yJ (lv.take c)≤yJ (lv.take a):=by
      obtain ⟨d,rfl⟩ : ∃ d,a=c+d:=⟨a-c,by omega⟩
      rw [List.take_add,qT]
      omega
     simp [yJ] at h1 h2 hx ⊢
     omega
   · obtain ⟨d,rfl⟩ : ∃ d,c=a+d:=⟨c-a,by omega⟩
     have hih:(2*d)*2^as.length≤2*amt (as.map Prod.fst):=by
      have p1:(a+d)*(2^as.length*2)=2*(a*2^as.length)+2*(d*2^as.length):=by
       rw [← Nat.mul_assoc,Nat.add_mul]; omega
      have p3:2*d*2^as.length=2*(d*2^as.length):=Nat.mul_assoc ..
      omega
     obtain ⟨i1,i2⟩:=Vp lv hr as (2*d) (fun p hq=>hp p (List.mem_cons_of_mem _ hq)) hih
     obtain ⟨q1,_,_⟩:=JP d (zW lv as.length) i1
     have hd:d≤(yy (zW lv as.length)).length:=by rw [yN]; omega
     have h1:=Qo lv (yy (zW lv as.length)) a d hr (kW (QH hr _)) ha hd
     refine ⟨by omega,?_⟩
     omega
end Go.Proofs.YtfkcdnaghndgfaaGreatDoor
namespace Go.Proofs.YtfkcdnaghndgfaaGreatDoor
def xH (ts:List Nat) (i:Nat):Nat:=ts.countP fun t=>decide (i<t)
theorem WE (i:Nat):xH [] i=0:=rfl
theorem Vh (t:Nat) (ts:List Nat) (i:Nat):xH (t::ts) i=xH ts i+if i<t then 1 else 0:=by
 unfold xH
 rw [List.countP_cons]
 simp
theorem zg1 (ts:List Nat) (i:Nat):xH ts i≤ts.length:=List.countP_le_length
theorem zdl {ts:List Nat} {i:Nat} (h : ∀ t∈ts,t≤i):xH ts i=0:=by
 unfold xH
 rw [List.countP_eq_zero]
 intro t ht
 simpa using h t ht
theorem zeT (ts:List Nat) {i k:Nat} (h:i≤k):xH ts k≤xH ts i:=by
 unfold xH
 apply List.countP_mono_left
 intro t _ ht
 simp at ht ⊢
 omega
def yt (n:Nat) (f:Nat→Nat):Nat:=((List.range n).map f).sum
theorem yd (n:Nat) (f:Nat→Nat):yt (n+1) f=yt n f+f n:=by simp [yt,List.range_succ]
theorem xU {n:Nat} {f g:Nat→Nat} (h : ∀ i,i<n→f i=g i):yt n f=yt n g:=by
 induction n with
 | zero=>rfl
 | succ n ih=>rw [yd,yd,ih (fun i hi=>h i (by omega)),h n (by omega)]
theorem kY (n a:Nat):yt n (fun _=>a)=n*a:=by
 induction n with
 | zero=>simp [yt]
 | succ n ih=>rw [yd,ih,Nat.succ_mul]
theorem zao (n:Nat) : ∀ (ts:List Nat),(∀ t∈ts,t≤n)→ts.Pairwise (fun a b=>b≤a)→yt n (fun i=>2^(ts.length-xH ts i))+amt ts=n*2^ts.length
 | [],_,_=>by
   simp only [amt,List.length_nil,WE,Nat.sub_self,Nat.pow_zero,kY]
   omega
 | t::ts,h1,h2=>by
   have ht:t≤n:=h1 t List.mem_cons_self
   have h2':=List.pairwise_cons.1 h2
   have ih:=zao n ts (fun x hx=>h1 x (List.mem_cons_of_mem _ hx)) h2'.2
   have e : ∀ m,m≤n→yt m (fun i=>2^((t::ts).length-xH (t::ts) i))=yt m (fun i=>2^(ts.length-xH ts i))+(m-t)*2^ts.length:=by
    intro m
    induction m with
    | zero=>intro _; simp [yt]
    | succ m ihm =>
      intro hm
      rw [yd,yd,ihm (by omega),Vh,List.length_cons]
      by_cases hlt:m<t
      · rw [if_pos hlt,show m-t=0 by omega,show m+1-t=0 by omega,show ts.length+1-(xH ts m+1)=ts.length-xH ts m by omega]
        omega
      · rw [if_neg hlt,zdl (i:=m) (fun x hx=>Nat.le_trans (h2'.1 x hx) (by omega)),show m+1-t=(m-t)+1 by omega,Nat.succ_mul]
        simp only [Nat.add_zero,Nat.sub_zero,Nat.pow_succ]
        omega
   rw [e n (Nat.le_refl _)]
   simp only [amt,List.length_cons,Nat.pow_succ]
   have p1:n*(2^ts.length*2)=n*2^ts.length+n*2^ts.length:=by rw [← Nat.mul_assoc]; omega
   have p2:(n-t)*2^ts.length+t*2^ts.length=n*2^ts.length:=by
    rw [← Nat.add_mul,show n-t+t=n by omega]
   omega
theorem VW (n:Nat) (v:Nat→Nat) (S:Nat→Nat) (hS : ∀ t,t≤n→S t=yt t v) : ∀ (ts:List Nat),(∀ t∈ts,t≤n)→(ts.map S).sum=yt n (fun i=>v i*xH ts i)
 | [],_=>by simp [WE,kY]
 | t::ts,h=>by
   have ih:=VW n v S hS ts (fun x hx=>h x (List.mem_cons_of_mem _ hx))
   have ht:t≤n:=h t List.mem_cons_self
   rw [List.map_cons,List.sum_cons,ih,hS t ht]
   have e : ∀ m,m≤n→yt m (fun i=>v i*xH (t::ts) i)=yt (min m t) v+yt m (fun i=>v i*xH ts i):=by
    intro m
    induction m with
    | zero=>intro _; simp [yt]
    | succ m ihm =>
      intro hm
      rw [yd,yd,ihm (by omega),Vh]
      by_cases hlt:m<t
      · rw [if_pos hlt,show min (m+1) t=m+1 by omega,show min m t=m by omega,yd,Nat.mul_add]
        omega
      · rw [if_neg hlt,show min (m+1) t=t by omega,show min m t=t by omega,Nat.add_zero]
        omega
   rw [e n (Nat.le_refl _),Nat.min_eq_right ht]
theorem zdP {s l:List Coin} (h:s.Sublist l) (hr:vD l):yJ (l.take s.length)≤yJ s:=by
 induction h with
 | slnil=>exact Nat.le_refl _
 | @cons s l x hs ih =>
   have hr':=List.pairwise_cons.1 hr
   have ih:=ih hr'.2
   cases hk:s.length with
   | zero=>simp [yJ]
   | succ k =>
     rw [hk] at ih
     have hkl:k<l.length:=by have:=hs.length_le; omega
     rw [List.take_succ_eq_append_getElem hkl,qT] at ih
     rw [List.take_succ_cons,xn]
     have h1:=hr'.1 _ (List.getElem_mem hkl)
     have h2:yJ [l[k]]=l[k].w:=by simp [yJ]
     omega
 | @cons_cons s l x hs ih =>
   have ih:=ih (List.pairwise_cons.1 hr).2
   rw [List.length_cons,List.take_succ_cons,xn,xn]
   omega
def QX:Nat→List (Coin×Nat)→List (Nat×Nat)
 | 0,_=>[]
 | L+1,ps=>(((ps.filter fun p=>decide (0<p.2)).length),((ps.filter fun p=>decide (0<p.2)).map fun p=>p.1.w).sum)::QX L (ps.map fun p=>(p.1,p.2-1))
theorem jS : ∀ (L:Nat) (ps:List (Coin×Nat)),(QX L ps).length=L
 | 0,_=>rfl
 | L+1,ps=>by rw [QX,List.length_cons,jS L]
theorem za1 : ∀ (L:Nat) (ps:List (Coin×Nat)),(∀ p∈ps,p.2≤L)→amt ((QX L ps).map Prod.fst)+(ps.map fun p=>2^(L-p.2)).sum=ps.length*2^L
 | 0,ps,h=>by
   simp only [QX,List.map_nil,amt,Nat.zero_sub,Nat.pow_zero,Nat.mul_one,Nat.zero_add]
   induction ps with
   | nil=>rfl
   | cons p ps ih=>rw [List.map_cons,List.sum_cons,ih (fun q hq=>h q (List.mem_cons_of_mem _ hq)),List.length_cons]; omega
 | L+1,ps,h=>by
   have ih:=za1 L (ps.map fun p=>(p.1,p.2-1)) (fun p hp=>by
    obtain ⟨q,hq,rfl⟩:=List.mem_map.1 hp
    have:=h q hq
    show q.2-1≤L
    omega)
   rw [List.length_map,List.map_map] at ih
   have e:(ps.map fun p=>2^(L+1-p.2)).sum+(ps.filter fun p=>decide (0<p.2)).length*2^L=(ps.map ((fun p:Coin×Nat=>2^(L-p.2))∘fun p=>(p.1,p.2-1))).sum+ps.length*2^L:=by
    clear ih
    induction ps with
    | nil=>rfl
    | cons p ps ih =>
      have ih:=ih (fun q hq=>h q (List.mem_cons_of_mem _ hq))
      have hp:=h p List.mem_cons_self
      simp only [List.map_cons,List.sum_cons,List.length_cons,List.filter_cons,Function.comp_apply,Nat.succ_mul]
      by_cases h0:0<p.2
      · rw [if_pos (by simpa using h0),List.length_cons,Nat.succ_mul,show L-(p.2-1)=L+1-p.2 by omega]
        omega
      · have hz:p.2=0:=by omega
        rw [if_neg (by simpa using h0),hz]
        simp only [Nat.sub_zero,Nat.zero_sub,Nat.pow_succ]
        omega
   rw [QX,List.map_cons]
   simp only [amt,List.length_map,jS]
   rw [Nat.pow_succ]
   have p1:ps.length*(2^L*2)=ps.length*2^L+ps.length*2^L:=by rw [← Nat.mul_assoc]; omega
   omega
theorem zan : ∀ (L:Nat) (ps:List (Coin×Nat)),(∀ p∈ps,p.2≤L)→((QX L ps).map Prod.snd).sum=(ps.map fun p=>p.1.w*p.2).sum
 | 0,ps,h=>by
   simp only [QX,List.map_nil,List.sum_nil]
   induction ps with
   | nil=>rfl
   | cons p ps ih =>
     have:=h p List.mem_cons_self
     rw [List.map_cons,List.sum_cons,← ih (fun q hq=>h q (List.mem_cons_of_mem _ hq)),show p.2=0 by omega]
     omega
 | L+1,ps,h=>by
   have ih:=zan L (ps.map fun p=>(p.1,p.2-1)) (fun p hp=>by
    obtain ⟨q,hq,rfl⟩:=List.mem_map.1 hp
    have:=h q hq
    show q.2-1≤L
    omega)
   rw [QX,List.map_cons,List.sum_cons,ih]
   clear ih
   rw [List.map_map]
   show ((ps.filter fun p=>decide (0<p.2)).map fun p=>p.1.w).sum+_=_
   induction ps with
   | nil=>rfl
   | cons p ps ih =>
     have ih:=ih (fun q hq=>h q (List.mem_cons_of_mem _ hq))
     simp only [List.map_cons,List.sum_cons,List.filter_cons,Function.comp_apply]
     by_cases h0:0<p.2
     · rw [if_pos (by simpa using h0),List.map_cons,List.sum_cons]
       obtain ⟨k,hk⟩ : ∃ k,p.2=k+1:=⟨p.2-1,by omega⟩
       rw [hk,Nat.add_sub_cancel,Nat.mul_succ]
       omega
     · have hz:p.2=0:=by omega
       rw [if_neg (by simpa using h0),hz]
       omega
theorem zda (lv:List Coin) (hr:vD lv) : ∀ (L:Nat) (ps:List (Coin×Nat)),ps.map Prod.fst=lv → ∀ q∈QX L ps,q.1≤lv.length∧yJ (lv.take q.1)≤q.2
 | 0,_,_,q,hq=>by simp [QX] at hq
 | L+1,ps,hps,q,hq=>by
   rw [QX] at hq
   rcases List.mem_cons.1 hq with rfl | hq
   · have hs:((ps.filter fun p=>decide (0<p.2)).map Prod.fst).Sublist lv:=by
      rw [← hps]
      exact List.Sublist.map _ List.filter_sublist
     have h1:=zdP hs hr
     have h2:=hs.length_le
     rw [List.length_map] at h1 h2
     refine ⟨h2,Nat.le_trans h1 ?_⟩
     simp [yJ]
     exact Nat.le_refl _
   · exact zda lv hr L _ (by rw [List.map_map,← hps]; rfl) q hq
theorem zeW (lv:List Coin) (hr:vD lv) (L:Nat) (ps:List (Coin×Nat)) (hps:ps.map Prod.fst=lv) (hle : ∀ p∈ps,p.2≤L) (hk:(ps.map fun p=>2^(L-p.2)).sum≤2^L) :
 yJ ((zW lv L).take (2*lv.length-2))≤(ps.map fun p=>p.1.w*p.2).sum:=by
 have h1:=za1 L ps hle
 have hl:ps.length=lv.length:=by rw [← hps,List.length_map]
 have h2:=Vp lv hr (QX L ps) (2*lv.length-2) (zda lv hr L ps hps) (by
  rw [jS]
  cases hn:lv.length with
  | zero=>simp
  | succ n =>
    rw [hl,hn,Nat.succ_mul] at h1
    rw [show 2*(n+1)-2=2*n by omega,Nat.mul_assoc]
    omega)
 rw [jS,zan L ps hle] at h2
 exact h2.2
theorem zhd (lv:List Coin) (hr:vD lv) (L:Nat) (hn:2≤lv.length) (hL:lv.length≤2^L) :
 2*lv.length-2≤(zW lv L).length ∧ ∃ ts:List Nat,ts.length=L∧(∀ t∈ts,t≤lv.length)∧yt lv.length (fun i=>2^(L-xH ts i))=2^L∧(∀ i,i<lv.length→1≤xH ts i∧xH ts i≤L) ∧
  yJ ((zW lv L).take (2*lv.length-2))=yt lv.length (fun i=>(lv.getD i (.leaf 0 0)).w*xH ts i) ∧ ∀ s,jA s ((zW lv L).take (2*lv.length-2))=yt lv.length (fun i=>(lv.getD i (.leaf 0 0)).cnt s*xH ts i):=by
 have hlen:2*lv.length-2≤(zW lv L).length:=ZC lv L _ (by
  obtain ⟨m,hm⟩ : ∃ m,lv.length=m+2:=⟨lv.length-2,by omega⟩
  rw [hm] at hL ⊢
  obtain ⟨q,hq⟩ : ∃ q,2^L=q+1:=⟨2^L-1,by omega⟩
  rw [hq] at hL ⊢
  rw [show 2*(m+2)-2=2*m+2 by omega,show q+1-1=q by omega]
  simp only [Nat.mul_add,Nat.add_mul]
  omega)
 obtain ⟨ts,h1,h2,h3,h4,h5,h6,_⟩:=Vn lv hr L _ hlen
 have hk:=zao lv.length ts h2 h3
 rw [h1] at hk
 have hkr:yt lv.length (fun i=>2^(L-xH ts i))=2^L:=by
  obtain ⟨m,hm⟩ : ∃ m,lv.length=m+1:=⟨lv.length-1,by omega⟩
  rw [hm] at h4 hk ⊢
  rw [show 2*(m+1)-2=2*m by omega,Nat.mul_assoc] at h4
  rw [Nat.succ_mul] at hk
  omega
 have takeW : ∀ (f:Coin→Nat) (t:Nat),t≤lv.length→((lv.take t).map f).sum=yt t (fun i=>f (lv.getD i (.leaf 0 0))):=by
  intro f t
  induction t with
  | zero=>intro _; rfl
  | succ t ih =>
    intro ht
    rw [List.take_succ_eq_append_getElem (by omega),List.map_append,List.sum_append_nat,ih (by omega),yd]
    simp [List.getD_eq_getElem?_getD,List.getElem?_eq_getElem (show t<lv.length by omega)]
 refine ⟨hlen,ts,h1,h2,hkr,?_,?_,?_⟩
 · intro i hi
   refine ⟨?_,by rw [← h1]; exact zg1 ts i⟩
   apply Nat.pos_of_ne_zero
   intro h0
   have hpos : ∀ m,m≤lv.length→(i<m→2^L+(m-1)≤yt m (fun i=>2^(L-xH ts i)))∧m≤yt m (fun i=>2^(L-xH ts i)):=by
    intro m
    induction m with
    | zero=>intro _; exact ⟨fun h=>by omega,Nat.zero_le _⟩
    | succ m ih =>
      intro hm
      obtain ⟨i1,i2⟩:=ih (by omega)
      rw [yd]
      have hp:0<2^(L-xH ts m):=Nat.two_pow_pos _
      refine ⟨fun h=>?_,by omega⟩
      by_cases e:i=m
      · subst e
        rw [h0,Nat.sub_zero]
        omega
      · have:=i1 (by omega)
        omega
   have:=(hpos lv.length (Nat.le_refl _)).1 hi
   omega
 · rw [h5]
   exact VW lv.length (fun i=>(lv.getD i (.leaf 0 0)).w) _ (fun t ht=>takeW Coin.w t ht) ts h2
 · intro s
   rw [h6]
   exact VW lv.length (fun i=>(lv.getD i (.leaf 0 0)).cnt s) _ (fun t ht=>takeW (Coin.cnt s) t ht) ts h2
end Go.Proofs.YtfkcdnaghndgfaaGreatDoor
namespace Go.Proofs.YtfkcdnaghndgfaaGreatDoor
def JC (limit:Nat) (ks:List Nat):Nat:=(ks.map fun k=>2^(limit-k)).sum
theorem Xb (limit k:Nat) (ks:List Nat):JC limit (k::ks)=2^(limit-k)+JC limit ks:=by simp [JC]
end Go.Proofs.YtfkcdnaghndgfaaGreatDoor
