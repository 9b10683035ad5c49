/- Package merge (plain): coins, rows, and what the first 2n - 2 coins of the last row weigh: no lengths cost less. -/
import Derived.Test.YtfkenhihcmmgkaaGreatDoorQAB
set_option linter.unusedVariables false
set_option linter.unusedSimpArgs false
set_option linter.unusedSectionVars false
namespace Go.Proofs.YtfkenhihcmmgkaaGreatDoor
inductive Coin where
 | leaf (w s:Nat)
 | pack (a b:Coin)
def Coin.w:Coin→Nat
 | .leaf w _=>w
 | .pack a b=>a.w+b.w
def Coin.cnt (s:Nat):Coin→Nat
 | .leaf _ t=>if t=s then 1 else 0
 | .pack a b=>a.cnt s+b.cnt s
def yQ (l:List Coin):Nat:=(l.map Coin.w).sum
def jG (s:Nat) (l:List Coin):Nat:=(l.map (Coin.cnt s)).sum
def leC (x y:Coin):Bool:=decide (x.w≤y.w)
def zT (a b:List Coin):List Coin:=List.merge a b leC
def yE:List Coin→List Coin
 | a::b::r => .pack a b::yE r
 | [_]=>[]
 | []=>[]
def yb (lv:List Coin):Nat→List Coin
 | 0=>[]
 | j+1=>zT lv (yE (yb lv j))
theorem qZ (a b:List Coin):yQ (a++b)=yQ a+yQ b:=by simp [yQ]
theorem WY (s:Nat) (a b:List Coin):jG s (a++b)=jG s a+jG s b:=by simp [jG]
theorem xF (a:Coin) (b:List Coin):yQ (a::b)=a.w+yQ b:=by simp [yQ]
theorem Vx (s:Nat) (a:Coin) (b:List Coin):jG s (a::b)=a.cnt s+jG s b:=by simp [jG]
theorem zfL {a b:List Coin} (h:a.Perm b):yQ a=yQ b:=(h.map _).sum_nat
theorem zfI {s:Nat} {a b:List Coin} (h:a.Perm b):jG s a=jG s b:=(h.map _).sum_nat
theorem vr (b:List Coin):zT [] b=b:=by unfold zT; rw [List.nil_merge]
theorem jt (a:List Coin):zT a []=a:=by unfold zT; rw [List.merge_right]
theorem ki (x y:Coin) (a b:List Coin):zT (x::a) (y::b)=if x.w≤y.w then x::zT a (y::b) else y::zT (x::a) b:=by
 unfold zT;rw [List.cons_merge_cons];by_cases h:x.w≤y.w
 · rw [if_pos h,if_pos (by unfold leC; exact decide_eq_true h)]
 · rw [if_neg h,if_neg (by unfold leC; simpa using h)]
theorem qX (a b:List Coin):(zT a b).length=a.length+b.length:=by unfold zT; exact List.length_merge ..
theorem xc : ∀ l:List Coin,(yE l).length=l.length/2
 | []=>rfl
 | [_]=>by simp [yE]
 | a::b::r=>by
   show (yE r).length+1=(r.length+2)/2;rw [xc r]; omega
def vH (l:List Coin):Prop:=l.Pairwise (fun x y=>x.w≤y.w)
theorem zbu {a b:List Coin} (ha:vH a) (hb:vH b):vH (zT a b):=by
 induction a generalizing b with
 | nil=>rw [vr]; exact hb
 | cons x a iha =>
   induction b with
   | nil=>rw [jt]; exact ha
   | cons y b ihb =>
     rw [ki];have ha':=List.pairwise_cons.1 ha;have hb':=List.pairwise_cons.1 hb;by_cases h:x.w≤y.w
     · rw [if_pos h];refine List.pairwise_cons.2 ⟨?_,iha ha'.2 hb⟩;intro z hz;unfold zT at hz;rcases List.mem_merge.1 hz with hz | hz
       · exact ha'.1 z hz
       · rcases List.mem_cons.1 hz with rfl | hz
         · exact h
         · exact Nat.le_trans h (hb'.1 z hz)
     · rw [if_neg h];refine List.pairwise_cons.2 ⟨?_,ihb hb'.2⟩;intro z hz;unfold zT at hz;rcases List.mem_merge.1 hz with hz | hz
       · rcases List.mem_cons.1 hz with rfl | hz
         · omega
         · have:=ha'.1 z hz; omega
       · exact hb'.1 z hz
theorem Jo : ∀ {l:List Coin} {z:Coin},z∈yE l → ∃ a b,a∈l∧b∈l∧z = .pack a b
 | a::b::r,z,h=>by
   rcases List.mem_cons.1 h with rfl | h
   · exact ⟨a,b,by simp,by simp,rfl⟩
   · obtain ⟨c,d,h1,h2,h3⟩:=Jo h;exact ⟨c,d,by simp [h1],by simp [h2],h3⟩
theorem kW : ∀ {l:List Coin},vH l→vH (yE l)
 | [],_=>List.Pairwise.nil
 | [_],_=>List.Pairwise.nil
 | a::b::r,h=>by
   have h1:=List.pairwise_cons.1 h;have h2:=List.pairwise_cons.1 h1.2;refine List.pairwise_cons.2 ⟨?_,kW h2.2⟩;intro z hz;obtain ⟨c,d,hc,hd,rfl⟩:=Jo hz;have e1:=h1.1 c (by simp [hc]);have e2:=h2.1 d hd;show a.w+b.w≤c.w+d.w;omega
theorem Zh {lv:List Coin} (h:vH lv) : ∀ j,vH (yb lv j)
 | 0=>List.Pairwise.nil
 | j+1=>zbu h (kW (Zh h j))
theorem JC : ∀ (p:Nat) (l:List Coin),2*p≤l.length→yQ ((yE l).take p)=yQ (l.take (2*p))∧(∀ s,jG s ((yE l).take p)=jG s (l.take (2*p))) ∧ ∀ x∈l.take (2*p),∃ y∈(yE l).take p,x.w≤y.w
 | 0,l,_=>by simp [yQ,jG]
 | p+1,l,h=>by
   match l,h with
   | a::b::r,h =>
     have hr:2*p≤r.length:=(by simp at h; omega);obtain ⟨h1,h2,h3⟩:=JC p r hr;have e:2*(p+1)=2*p+1+1:=(by omega);rw [e];simp only [yE,List.take_succ_cons,xF,Vx,h1,h2];refine ⟨by show a.w+b.w+_=_; omega,fun s=>by show a.cnt s+b.cnt s+_=_; omega,?_⟩;intro x hx;rcases List.mem_cons.1 hx with rfl | hx
     · exact ⟨_,List.mem_cons_self,by show x.w≤x.w+b.w; omega⟩
     · rcases List.mem_cons.1 hx with rfl | hx
       · exact ⟨_,List.mem_cons_self,by show x.w≤a.w+x.w; omega⟩
       · obtain ⟨y,hy,hxy⟩:=h3 x hx;exact ⟨y,List.mem_cons_of_mem _ hy,hxy⟩
theorem zaL : ∀ (a b:List Coin) (c:Nat),vH a→c≤a.length+b.length →
 ∃ t,t≤c∧t≤a.length∧c-t≤b.length∧((zT a b).take c).Perm (a.take t++b.take (c-t))∧(∀ (h:t<a.length),∀ y∈b.take (c-t),y.w<a[t].w):=by
 intro a
 induction a with
 | nil =>
   intro b c _ hc;refine ⟨0,by omega,by simp,by simpa using hc,?_,fun h=>by simp at h⟩;rw [vr]; simp
 | cons x a iha =>
   intro b
   induction b with
   | nil =>
     intro c ha hc;refine ⟨c,by omega,by simpa using hc,by simp,?_,?_⟩
     · rw [jt]; simp
     · intro h y hy; simp at hy
   | cons y b ihb =>
     intro c ha hc;have ha':=List.pairwise_cons.1 ha;cases c with
     | zero=>exact ⟨0,by omega,by omega,by omega,by simp,fun h y hy=>by simp at hy⟩
     | succ c =>
       rw [ki];by_cases hxy:x.w≤y.w
       · rw [if_pos hxy];obtain ⟨t,h1,h2,h3,h4,h5⟩:=iha (y::b) c ha'.2 (by simp at hc ⊢; omega);refine ⟨t+1,by omega,by simp; omega,by rw [Nat.add_sub_add_right]; exact h3,?_,?_⟩
         · rw [List.take_succ_cons,List.take_succ_cons,Nat.add_sub_add_right];exact List.Perm.cons x h4
         · intro h z hz;rw [Nat.add_sub_add_right] at hz;exact h5 (by simpa using h) z hz
       · rw [if_neg hxy];obtain ⟨t,h1,h2,h3,h4,h5⟩:=ihb c ha (by simp at hc ⊢; omega);have e:c+1-t=(c-t)+1:=(by omega);refine ⟨t,by omega,h2,by rw [e]; simp; omega,?_,?_⟩
         · rw [e,List.take_succ_cons,List.take_succ_cons];exact (List.Perm.cons y h4).trans List.perm_middle.symm
         · intro h z hz;rw [e,List.take_succ_cons] at hz;rcases List.mem_cons.1 hz with rfl | hz
           · have:x.w≤(x::a)[t].w:=by
              cases t with
              | zero=>exact Nat.le_refl _
              | succ t=>exact ha'.1 _ (List.getElem_mem ..)
             omega
           · exact h5 h z hz
theorem Qi : ∀ (a b:List Coin) (i k:Nat),vH a→vH b→i≤a.length→k≤b.length→yQ ((zT a b).take (i+k))≤yQ (a.take i)+yQ (b.take k):=by
 intro a
 induction a with
 | nil =>
   intro b i k _ _ hi hk;have:i=0:=(by simpa using hi);subst this;rw [vr]; simp [yQ]
 | cons x a iha =>
   intro b
   induction b with
   | nil =>
     intro i k _ _ hi hk;have:k=0:=(by simpa using hk);subst this;rw [jt]; simp
   | cons y b ihb =>
     intro i k ha hb hi hk;have ha':=List.pairwise_cons.1 ha;have hb':=List.pairwise_cons.1 hb;rw [ki];by_cases hxy:x.w≤y.w
     · rw [if_pos hxy];cases i with
       | succ i =>
         rw [show i+1+k=(i+k)+1 by omega,List.take_succ_cons,List.take_succ_cons,xF,xF];have:=iha (y::b) i k ha'.2 hb (by simpa using hi) hk;omega
       | zero =>
         cases k with
         | zero=>simp [yQ]
         | succ k =>
           rw [Nat.zero_add,List.take_succ_cons,xF];have h1:=iha (y::b) 0 k ha'.2 hb (by omega) (by omega);rw [Nat.zero_add] at h1;have hk':k<(y::b).length:=(by omega);have h2:yQ ((y::b).take (k+1))=yQ ((y::b).take k)+(y::b)[k].w:=by
            rw [List.take_succ_eq_append_getElem hk',qZ]; simp [yQ]
           have h3:y.w≤(y::b)[k].w:=by
            cases k with
            | zero=>exact Nat.le_refl _
            | succ k=>exact hb'.1 _ (List.getElem_mem ..)
           rw [h2];simp only [List.take_zero] at h1 ⊢;omega
     · rw [if_neg hxy];cases k with
       | succ k =>
         rw [show i+(k+1)=(i+k)+1 by omega,List.take_succ_cons,List.take_succ_cons,xF,xF];have:=ihb i k ha hb'.2 hi (by simpa using hk);omega
       | zero =>
         cases i with
         | zero=>simp [yQ]
         | succ i =>
           rw [Nat.add_zero,List.take_succ_cons,xF];have h1:=ihb i 0 ha hb'.2 (by omega) (by omega);rw [Nat.add_zero] at h1;have hi':i<(x::a).length:=(by omega);have h2:yQ ((x::a).take (i+1))=yQ ((x::a).take i)+(x::a)[i].w:=by
            rw [List.take_succ_eq_append_getElem hi',qZ]; simp [yQ]
           have h3:x.w≤(x::a)[i].w:=by
            cases i with
            | zero=>exact Nat.le_refl _
            | succ i=>exact ha'.1 _ (List.getElem_mem ..)
           rw [h2];simp only [List.take_zero] at h1 ⊢;omega
theorem ZP (lv:List Coin) : ∀ (j x:Nat),x*2^j≤2*lv.length*(2^j-1)→x≤(yb lv j).length
 | 0,x,h=>by simp at h; omega
 | j+1,x,h=>by
   show x≤(zT lv (yE (yb lv j))).length;rw [qX,xc];by_cases hx:x≤lv.length
   · omega
   · have hp:0<2^j:=Nat.two_pow_pos j;have:=ZP lv j (2*(x-lv.length)) (by
      rw [Nat.pow_succ] at h;generalize 2^j=p at *;obtain ⟨y,rfl⟩ : ∃ y,x=lv.length+y:=⟨x-lv.length,by omega⟩;obtain ⟨q,rfl⟩ : ∃ q,p=q+1:=⟨p-1,by omega⟩;generalize lv.length=n at *;have e1:n+y-n=y:=(by omega);rw [e1];have e2:q+1-1=q:=(by omega);rw [e2];have e3:(q+1)*2-1=2*q+1:=(by omega);rw [e3] at h;simp only [Nat.mul_add,Nat.add_mul,Nat.mul_one,Nat.one_mul] at h ⊢;have p1:2*y*q=2*(y*q):=Nat.mul_assoc ..;have p2:2*n*q=2*(n*q):=Nat.mul_assoc ..;have p3:n*(q*2)=2*(n*q):=(by rw [← Nat.mul_assoc,Nat.mul_comm]);have p4:y*(q*2)=2*(y*q):=(by rw [← Nat.mul_assoc,Nat.mul_comm]);have p5:2*n*(2*q)=4*(n*q):=by
       rw [Nat.mul_assoc,Nat.mul_left_comm n 2 q]; omega
      rw [p3,p4,p5] at h;rw [p1,p2];omega)
     omega
def amt:List Nat→Nat
 | []=>0
 | t::ts=>t*2^ts.length+amt ts
theorem VW (lv:List Coin) (hr:vH lv) : ∀ (j c:Nat),c≤(yb lv j).length →
 ∃ ts:List Nat,ts.length=j∧(∀ t∈ts,t≤lv.length)∧ts.Pairwise (fun a b=>b≤a)∧2*amt ts=c*2^j ∧
  yQ ((yb lv j).take c)=(ts.map fun t=>yQ (lv.take t)).sum∧(∀ s,jG s ((yb lv j).take c)=(ts.map fun t=>jG s (lv.take t)).sum) ∧
  (∀ t,ts.head? =some t → ∀ x∈lv.take t,x∈(yb lv j).take c)
 | 0,c,h=>by
   have:c=0:=(by simpa [yb] using h);subst this;exact ⟨[],rfl,by simp,List.Pairwise.nil,by simp [amt],by simp [yQ],by simp [jG],by simp⟩
 | j+1,c,h=>by
   have h':c≤lv.length+(yE (yb lv j)).length:=by
    have e:(yb lv (j+1)).length=_:=qX lv (yE (yb lv j));omega
   obtain ⟨t,h1,h2,h3,h4,h5⟩:=zaL lv (yE (yb lv j)) c hr h';have h3':2*(c-t)≤(yb lv j).length:=(by rw [xc] at h3; omega);obtain ⟨ts,k1,k2,k3,k4,k5,k6,k7⟩:=VW lv hr j (2*(c-t)) h3';obtain ⟨q1,q2,q3⟩:=JC (c-t) (yb lv j) h3';refine ⟨t::ts,by simp [k1],?_,?_,?_,?_,?_,?_⟩
   · intro x hx;rcases List.mem_cons.1 hx with rfl | hx
     · exact h2
     · exact k2 x hx
   · refine List.pairwise_cons.2 ⟨?_,k3⟩;have hh : ∀ u,ts.head? =some u→u≤t:=by
      intro u hu;apply Nat.le_of_not_lt;intro hlt;have hul:u≤lv.length:=k2 u (List.mem_of_mem_head? hu);have ht:t<lv.length:=(by omega);have hm:lv[t]∈lv.take u:=by
       rw [List.mem_take_iff_getElem];exact ⟨t,by omega,rfl⟩
      obtain ⟨y,hy,hyw⟩:=q3 _ (k7 u hu _ hm);have:=h5 ht y hy;omega
     intro b hb;cases ts with
     | nil=>simp at hb
     | cons u r =>
       have hu:=hh u rfl;rcases List.mem_cons.1 hb with rfl | hb
       · exact hu
       · exact Nat.le_trans ((List.pairwise_cons.1 k3).1 b hb) hu
   · have e1:2*amt (t::ts)=2*(t*2^j)+2*amt ts:=(by simp only [amt,k1]; omega);rw [e1,k4,Nat.pow_succ];obtain ⟨d,rfl⟩ : ∃ d,c=t+d:=⟨c-t,by omega⟩;rw [show t+d-t=d by omega];simp only [Nat.add_mul];have p1:t*(2^j*2)=2*(t*2^j):=(by rw [← Nat.mul_assoc,Nat.mul_comm]);have p2:d*(2^j*2)=2*(d*2^j):=(by rw [← Nat.mul_assoc,Nat.mul_comm]);have p3:2*d*2^j=2*(d*2^j):=Nat.mul_assoc ..;omega
   · show yQ ((zT lv (yE (yb lv j))).take c)=_;rw [zfL h4,qZ,q1,k5];simp
   · intro s;show jG s ((zT lv (yE (yb lv j))).take c)=_;rw [zfI h4,WY,q2,k6];simp
   · intro u hu x hx;simp at hu;subst hu;exact h4.symm.mem_iff.1 (List.mem_append.2 (.inl hx))
theorem Kl (lv:List Coin) (hr:vH lv) : ∀ (xas:List (Nat×Nat)) (c:Nat),(∀ p∈xas,p.1≤lv.length∧yQ (lv.take p.1)≤p.2)→c*2^xas.length≤2*amt (xas.map Prod.fst) →
 c≤(yb lv xas.length).length∧yQ ((yb lv xas.length).take c)≤(xas.map Prod.snd).sum
 | [],c,_,h=>by
   have:c=0:=(by simpa [amt] using h);subst this;simp [yQ]
 | (a,x)::xas,c,hp,h=>by
   obtain ⟨ha,hx⟩:=hp (a,x) List.mem_cons_self;have ha:a≤lv.length:=ha;have hx:yQ (lv.take a)≤x:=hx;have hl:((a,x)::xas).length=xas.length+1:=rfl;rw [hl] at h ⊢;have hmap:amt (((a,x)::xas).map Prod.fst)=a*2^xas.length+amt (xas.map Prod.fst):=(by simp [amt]);rw [hmap,Nat.pow_succ] at h;show c≤(zT lv (yE (yb lv xas.length))).length∧yQ ((zT lv (yE (yb lv xas.length))).take c)≤x+(xas.map Prod.snd).sum;rw [qX];by_cases hac:c≤a
   · refine ⟨by omega,?_⟩;have h1:=Qi lv (yE (yb lv xas.length)) c 0 hr (kW (Zh hr _)) (by omega) (by omega);have h2:yQ (lv.take c)≤yQ (lv.take a):=by
      obtain ⟨d,rfl⟩ : ∃ d,a=c+d:=⟨a-c,by omega⟩;rw [List.take_add,qZ];omega
     simp [yQ] at h1 h2 hx ⊢;omega
   · obtain ⟨d,rfl⟩ : ∃ d,c=a+d:=⟨c-a,by omega⟩;have hih:(2*d)*2^xas.length≤2*amt (xas.map Prod.fst):=by
      have p1:(a+d)*(2^xas.length*2)=2*(a*2^xas.length)+2*(d*2^xas.length):=by
       rw [← Nat.mul_assoc,Nat.add_mul]; omega
      have p3:2*d*2^xas.length=2*(d*2^xas.length):=Nat.mul_assoc ..;omega
     obtain ⟨i1,i2⟩:=Kl lv hr xas (2*d) (fun p hq=>hp p (List.mem_cons_of_mem _ hq)) hih;obtain ⟨q1,_,_⟩:=JC d (yb lv xas.length) i1;have hd:d≤(yE (yb lv xas.length)).length:=(by rw [xc]; omega);have h1:=Qi lv (yE (yb lv xas.length)) a d hr (kW (Zh hr _)) ha hd;refine ⟨by omega,?_⟩;omega
def xS (ts:List Nat) (i:Nat):Nat:=ts.countP fun t=>decide (i<t)
theorem zaI (i:Nat):xS [] i=0:=rfl
theorem Vs (t:Nat) (ts:List Nat) (i:Nat):xS (t::ts) i=xS ts i+if i<t then 1 else 0:=by
 unfold xS;rw [List.countP_cons];simp
theorem zi5 (ts:List Nat) (i:Nat):xS ts i≤ts.length:=List.countP_le_length
theorem zfR {ts:List Nat} {i:Nat} (h : ∀ t∈ts,t≤i):xS ts i=0:=by
 unfold xS;rw [List.countP_eq_zero];intro t ht;simpa using h t ht
theorem ze3 (ts:List Nat) {i k:Nat} (h:i≤k):xS ts k≤xS ts i:=by
 unfold xS;apply List.countP_mono_left;intro t _ ht;simp at ht ⊢;omega
def yz (n:Nat) (f:Nat→Nat):Nat:=((List.range n).map f).sum
theorem yi (n:Nat) (f:Nat→Nat):yz (n+1) f=yz n f+f n:=by simp [yz,List.range_succ]
theorem ql {n:Nat} {f g:Nat→Nat} (h : ∀ i,i<n→f i=g i):yz n f=yz n g:=by
 induction n with
 | zero=>rfl
 | succ n ih=>rw [yi,yi,ih (fun i hi=>h i (by omega)),h n (by omega)]
theorem kZ (n a:Nat):yz n (fun _=>a)=n*a:=by
 induction n with
 | zero=>simp [yz]
 | succ n ih=>rw [yi,ih,Nat.succ_mul]
theorem WV (n:Nat) : ∀ (ts:List Nat),(∀ t∈ts,t≤n)→ts.Pairwise (fun a b=>b≤a)→yz n (fun i=>2^(ts.length-xS ts i))+amt ts=n*2^ts.length
 | [],_,_=>by
   simp only [amt,List.length_nil,zaI,Nat.sub_self,Nat.pow_zero,kZ];omega
 | t::ts,h1,h2=>by
   have ht:t≤n:=h1 t List.mem_cons_self;have h2':=List.pairwise_cons.1 h2;have ih:=WV n ts (fun x hx=>h1 x (List.mem_cons_of_mem _ hx)) h2'.2;have e : ∀ m,m≤n→yz m (fun i=>2^((t::ts).length-xS (t::ts) i))=yz m (fun i=>2^(ts.length-xS ts i))+(m-t)*2^ts.length:=by
    intro m
    induction m with
    | zero=>intro _; simp [yz]
    | succ m ihm =>
      intro hm;rw [yi,yi,ihm (by omega),Vs,List.length_cons];by_cases hlt:m<t
      · rw [if_pos hlt,show m-t=0 by omega,show m+1-t=0 by omega,show ts.length+1-(xS ts m+1)=ts.length-xS ts m by omega];omega
      · rw [if_neg hlt,zfR (i:=m) (fun x hx=>Nat.le_trans (h2'.1 x hx) (by omega)),show m+1-t=(m-t)+1 by omega,Nat.succ_mul];simp only [Nat.add_zero,Nat.sub_zero,Nat.pow_succ];omega
   rw [e n (Nat.le_refl _)];simp only [amt,List.length_cons,Nat.pow_succ];have p1:n*(2^ts.length*2)=n*2^ts.length+n*2^ts.length:=(by rw [← Nat.mul_assoc]; omega);have p2:(n-t)*2^ts.length+t*2^ts.length=n*2^ts.length:=by
    rw [← Nat.add_mul,show n-t+t=n by omega]
   omega
theorem KP (n:Nat) (v:Nat→Nat) (S:Nat→Nat) (hS : ∀ t,t≤n→S t=yz t v) : ∀ (ts:List Nat),(∀ t∈ts,t≤n)→(ts.map S).sum=yz n (fun i=>v i*xS ts i)
 | [],_=>by simp [zaI,kZ]
 | t::ts,h=>by
   have ih:=KP n v S hS ts (fun x hx=>h x (List.mem_cons_of_mem _ hx));have ht:t≤n:=h t List.mem_cons_self;rw [List.map_cons,List.sum_cons,ih,hS t ht];have e : ∀ m,m≤n→yz m (fun i=>v i*xS (t::ts) i)=yz (min m t) v+yz m (fun i=>v i*xS ts i):=by
    intro m
    induction m with
    | zero=>intro _; simp [yz]
    | succ m ihm =>
      intro hm;rw [yi,yi,ihm (by omega),Vs];by_cases hlt:m<t
      · rw [if_pos hlt,show min (m+1) t=m+1 by omega,show min m t=m by omega,yi,Nat.mul_add];omega
      · rw [if_neg hlt,show min (m+1) t=t by omega,show min m t=t by omega,Nat.add_zero];omega
   rw [e n (Nat.le_refl _),Nat.min_eq_right ht]
theorem zeF {s l:List Coin} (h:s.Sublist l) (hr:vH l):yQ (l.take s.length)≤yQ s:=by
 induction h with
 | slnil=>exact Nat.le_refl _
 | @cons s l x hs ih =>
   have hr':=List.pairwise_cons.1 hr;have ih:=ih hr'.2;cases hk:s.length with
   | zero=>simp [yQ]
   | succ k =>
     rw [hk] at ih;have hkl:k<l.length:=(by have:=hs.length_le; omega);rw [List.take_succ_eq_append_getElem hkl,qZ] at ih;rw [List.take_succ_cons,xF];have h1:=hr'.1 _ (List.getElem_mem hkl);have h2:yQ [l[k]]=l[k].w:=(by simp [yQ]);omega
 | @cons_cons s l x hs ih =>
   have ih:=ih (List.pairwise_cons.1 hr).2;rw [List.length_cons,List.take_succ_cons,xF,xF];omega
def QH:Nat→List (Coin×Nat)→List (Nat×Nat)
 | 0,_=>[]
 | L+1,ps=>(((ps.filter fun p=>decide (0<p.2)).length),((ps.filter fun p=>decide (0<p.2)).map fun p=>p.1.w).sum)::QH L (ps.map fun p=>(p.1,p.2-1))
theorem ke : ∀ (L:Nat) (ps:List (Coin×Nat)),(QH L ps).length=L
 | 0,_=>rfl
 | L+1,ps=>by rw [QH,List.length_cons,ke L]
theorem zby : ∀ (L:Nat) (ps:List (Coin×Nat)),(∀ p∈ps,p.2≤L)→amt ((QH L ps).map Prod.fst)+(ps.map fun p=>2^(L-p.2)).sum=ps.length*2^L
 | 0,ps,h=>by
   simp only [QH,List.map_nil,amt,Nat.zero_sub,Nat.pow_zero,Nat.mul_one,Nat.zero_add]
   induction ps with
   | nil=>rfl
   | cons p ps ih=>rw [List.map_cons,List.sum_cons,ih (fun q hq=>h q (List.mem_cons_of_mem _ hq)),List.length_cons]; omega
 | L+1,ps,h=>by
   have ih:=zby L (ps.map fun p=>(p.1,p.2-1)) (fun p hp=>by
    obtain ⟨q,hq,rfl⟩:=List.mem_map.1 hp;have:=h q hq;show q.2-1≤L;omega)
   rw [List.length_map,List.map_map] at ih;have e:(ps.map fun p=>2^(L+1-p.2)).sum+(ps.filter fun p=>decide (0<p.2)).length*2^L=(ps.map ((fun p:Coin×Nat=>2^(L-p.2))∘fun p=>(p.1,p.2-1))).sum+ps.length*2^L:=by
    clear ih
    induction ps with
    | nil=>rfl
    | cons p ps ih =>
      have ih:=ih (fun q hq=>h q (List.mem_cons_of_mem _ hq));have hp:=h p List.mem_cons_self;simp only [List.map_cons,List.sum_cons,List.length_cons,List.filter_cons,Function.comp_apply,Nat.succ_mul];by_cases h0:0<p.2
      · rw [if_pos (by simpa using h0),List.length_cons,Nat.succ_mul,show L-(p.2-1)=L+1-p.2 by omega];omega
      · have hz:p.2=0:=(by omega);rw [if_neg (by simpa using h0),hz];simp only [Nat.sub_zero,Nat.zero_sub,Nat.pow_succ];omega
   rw [QH,List.map_cons];simp only [amt,List.length_map,ke];rw [Nat.pow_succ];have p1:ps.length*(2^L*2)=ps.length*2^L+ps.length*2^L:=(by rw [← Nat.mul_assoc]; omega);omega
theorem WT : ∀ (L:Nat) (ps:List (Coin×Nat)),(∀ p∈ps,p.2≤L)→((QH L ps).map Prod.snd).sum=(ps.map fun p=>p.1.w*p.2).sum
 | 0,ps,h=>by
   simp only [QH,List.map_nil,List.sum_nil]
   induction ps with
   | nil=>rfl
   | cons p ps ih =>
     have:=h p List.mem_cons_self;rw [List.map_cons,List.sum_cons,← ih (fun q hq=>h q (List.mem_cons_of_mem _ hq)),show p.2=0 by omega];omega
 | L+1,ps,h=>by
   have ih:=WT L (ps.map fun p=>(p.1,p.2-1)) (fun p hp=>by
    obtain ⟨q,hq,rfl⟩:=List.mem_map.1 hp;have:=h q hq;show q.2-1≤L;omega)
   rw [QH,List.map_cons,List.sum_cons,ih];clear ih;rw [List.map_map];show ((ps.filter fun p=>decide (0<p.2)).map fun p=>p.1.w).sum+_=_
   induction ps with
   | nil=>rfl
   | cons p ps ih =>
     have ih:=ih (fun q hq=>h q (List.mem_cons_of_mem _ hq));simp only [List.map_cons,List.sum_cons,List.filter_cons,Function.comp_apply];by_cases h0:0<p.2
     · rw [if_pos (by simpa using h0),List.map_cons,List.sum_cons];obtain ⟨k,hk⟩ : ∃ k,p.2=k+1:=⟨p.2-1,by omega⟩;rw [hk,Nat.add_sub_cancel,Nat.mul_succ];omega
     · have hz:p.2=0:=(by omega);rw [if_neg (by simpa using h0),hz];omega
theorem zdI (lv:List Coin) (hr:vH lv) : ∀ (L:Nat) (ps:List (Coin×Nat)),ps.map Prod.fst=lv → ∀ q∈QH L ps,q.1≤lv.length∧yQ (lv.take q.1)≤q.2
 | 0,_,_,q,hq=>by simp [QH] at hq
 | L+1,ps,hps,q,hq=>by
   rw [QH] at hq;rcases List.mem_cons.1 hq with rfl | hq
   · have hs:((ps.filter fun p=>decide (0<p.2)).map Prod.fst).Sublist lv:=by
      rw [← hps];exact List.Sublist.map _ List.filter_sublist
     have h1:=zeF hs hr;have h2:=hs.length_le;rw [List.length_map] at h1 h2;refine ⟨h2,Nat.le_trans h1 ?_⟩;simp [yQ];exact Nat.le_refl _
   · exact zdI lv hr L _ (by rw [List.map_map,← hps]; rfl) q hq
theorem zfM (lv:List Coin) (hr:vH lv) (L:Nat) (ps:List (Coin×Nat)) (hps:ps.map Prod.fst=lv) (hle : ∀ p∈ps,p.2≤L) (hk:(ps.map fun p=>2^(L-p.2)).sum≤2^L) :
 yQ ((yb lv L).take (2*lv.length-2))≤(ps.map fun p=>p.1.w*p.2).sum:=by
 have h1:=zby L ps hle;have hl:ps.length=lv.length:=by rw [← hps,List.length_map]
 have h2:=Kl lv hr (QH L ps) (2*lv.length-2) (zdI lv hr L ps hps) (by
  rw [ke];cases hn:lv.length with
  | zero=>simp
  | succ n =>
    rw [hl,hn,Nat.succ_mul] at h1;rw [show 2*(n+1)-2=2*n by omega,Nat.mul_assoc];omega)
 rw [ke,WT L ps hle] at h2;exact h2.2
theorem zi4 (lv:List Coin) (hr:vH lv) (L:Nat) (hn:2≤lv.length) (hL:lv.length≤2^L) :
 2*lv.length-2≤(yb lv L).length ∧ ∃ ts:List Nat,ts.length=L∧(∀ t∈ts,t≤lv.length)∧yz lv.length (fun i=>2^(L-xS ts i))=2^L∧(∀ i,i<lv.length→1≤xS ts i∧xS ts i≤L) ∧
  yQ ((yb lv L).take (2*lv.length-2))=yz lv.length (fun i=>(lv.getD i (.leaf 0 0)).w*xS ts i) ∧ ∀ s,jG s ((yb lv L).take (2*lv.length-2))=yz lv.length (fun i=>(lv.getD i (.leaf 0 0)).cnt s*xS ts i):=by
 have hlen:2*lv.length-2≤(yb lv L).length:=ZP lv L _ (by
  obtain ⟨m,hm⟩ : ∃ m,lv.length=m+2:=⟨lv.length-2,by omega⟩;rw [hm] at hL ⊢;obtain ⟨q,hq⟩ : ∃ q,2^L=q+1:=⟨2^L-1,by omega⟩;rw [hq] at hL ⊢;rw [show 2*(m+2)-2=2*m+2 by omega,show q+1-1=q by omega];simp only [Nat.mul_add,Nat.add_mul];omega)
 obtain ⟨ts,h1,h2,h3,h4,h5,h6,_⟩:=VW lv hr L _ hlen;have hk:=WV lv.length ts h2 h3;rw [h1] at hk;have hkr:yz lv.length (fun i=>2^(L-xS ts i))=2^L:=by
  obtain ⟨m,hm⟩ : ∃ m,lv.length=m+1:=⟨lv.length-1,by omega⟩;rw [hm] at h4 hk ⊢;rw [show 2*(m+1)-2=2*m by omega,Nat.mul_assoc] at h4;rw [Nat.succ_mul] at hk;omega
 have takeW : ∀ (f:Coin→Nat) (t:Nat),t≤lv.length→((lv.take t).map f).sum=yz t (fun i=>f (lv.getD i (.leaf 0 0))):=by
  intro f t
  induction t with
  | zero=>intro _; rfl
  | succ t ih =>
    intro ht;rw [List.take_succ_eq_append_getElem (by omega),List.map_append,List.sum_append_nat,ih (by omega),yi];simp [List.getD_eq_getElem?_getD,List.getElem?_eq_getElem (show t<lv.length by omega)]
 refine ⟨hlen,ts,h1,h2,hkr,?_,?_,?_⟩
 · intro i hi;refine ⟨?_,by rw [← h1]; exact zi5 ts i⟩;apply Nat.pos_of_ne_zero;intro h0;have hpos : ∀ m,m≤lv.length→(i<m→2^L+(m-1)≤yz m (fun i=>2^(L-xS ts i)))∧m≤yz m (fun i=>2^(L-xS ts i)):=by
    intro m
    induction m with
    | zero=>intro _; exact ⟨fun h=>by omega,Nat.zero_le _⟩
    | succ m ih =>
      intro hm;obtain ⟨i1,i2⟩:=ih (by omega);rw [yi];have hp:0<2^(L-xS ts m):=Nat.two_pow_pos _;refine ⟨fun h=>?_,by omega⟩;by_cases e:i=m
      · subst e;rw [h0,Nat.sub_zero];omega
      · have:=i1 (by omega);omega
   have:=(hpos lv.length (Nat.le_refl _)).1 hi;omega
 · rw [h5];exact KP lv.length (fun i=>(lv.getD i (.leaf 0 0)).w) _ (fun t ht=>takeW Coin.w t ht) ts h2
 · intro s;rw [h6];exact KP lv.length (fun i=>(lv.getD i (.leaf 0 0)).cnt s) _ (fun t ht=>takeW (Coin.cnt s) t ht) ts h2
def Jz (limit:Nat) (ks:List Nat):Nat:=(ks.map fun k=>2^(limit-k)).sum
theorem Xt (limit k:Nat) (ks:List Nat):Jz limit (k::ks)=2^(limit-k)+Jz limit ks:=by simp [Jz]
def yy (n:Int):Nat:=(max 0 (min n 1073741824)).toNat
theorem zbg (n:Int):yy n≤1073741824:=by unfold yy; omega
def Ahead (many:List Int) (a b:Nat):Prop:=yy (many.getD a 0)<yy (many.getD b 0)∨(yy (many.getD a 0)=yy (many.getD b 0)∧a<b)
theorem Ahead.irrefl {many:List Int} {a:Nat} : ¬ Ahead many a a:=fun h=>by rcases h with h | h<;>omega
theorem Ahead.asymm {many:List Int} {a b:Nat} (h:Ahead many a b) : ¬ Ahead many b a:=fun k=>by
 rcases h with h | h<;>rcases k with k | k<;>omega
theorem Ahead.ne {many:List Int} {a b:Nat} (h:Ahead many a b):a≠b:=fun e=>by subst e; exact h.irrefl
theorem Ahead.trans {many:List Int} {a b c:Nat} (h:Ahead many a b) (k:Ahead many b c):Ahead many a c:=by
 unfold Ahead at *; omega
structure IsUsed (many:List Int) (n:Nat) (u:List Nat):Prop where
 mem : ∀ i,i∈u↔i<n∧0<many.getD i 0
 srt:u.Pairwise (Ahead many)
theorem zaJ (many:List Int) : ∀ (u v:List Nat),u.Pairwise (Ahead many)→v.Pairwise (Ahead many)→(∀ i,i∈u↔i∈v)→u=v
 | [],[],_,_,_=>rfl
 | [],y::v,_,_,h=>absurd ((h y).2 List.mem_cons_self) (by simp)
 | x::u,[],_,_,h=>absurd ((h x).1 List.mem_cons_self) (by simp)
 | x::u,y::v,hu,hv,h=>by
   have hu':=List.pairwise_cons.1 hu;have hv':=List.pairwise_cons.1 hv;have e:x=y:=by
    rcases List.mem_cons.1 ((h x).1 List.mem_cons_self) with e | hx
    · exact e
    · rcases List.mem_cons.1 ((h y).2 List.mem_cons_self) with e | hy
      · exact e.symm
      · exact absurd (hu'.1 y hy) (hv'.1 x hx).asymm
   subst e;rw [zaJ many u v hu'.2 hv'.2 fun i=>?_];constructor
   · intro hi;rcases List.mem_cons.1 ((h i).1 (List.mem_cons_of_mem _ hi)) with e | hi'
     · exact absurd e.symm (hu'.1 i hi).ne
     · exact hi'
   · intro hi;rcases List.mem_cons.1 ((h i).2 (List.mem_cons_of_mem _ hi)) with e | hi'
     · exact absurd e.symm (hv'.1 i hi).ne
     · exact hi'
theorem IsUsed.uniq {many:List Int} {n:Nat} {u v:List Nat} (h:IsUsed many n u) (k:IsUsed many n v):u=v :=
 zaJ many u v h.srt k.srt fun i=>(h.mem i).trans (k.mem i).symm
theorem IsUsed.nodup {many:List Int} {n:Nat} {u:List Nat} (h:IsUsed many n u):u.Nodup:=h.srt.imp Ahead.ne
theorem Ym {n:Nat} {u:List Nat} (hnd:u.Nodup) (hlt : ∀ s∈u,s<n):u.Perm ((List.range n).filter fun s=>decide (s∈u)):=by
 rw [List.perm_ext_iff_of_nodup hnd (List.nodup_range.filter _)];intro s;rw [List.mem_filter,List.mem_range];simp only [decide_eq_true_eq];exact ⟨fun h=>⟨hlt s h,h⟩,fun h=>h.2⟩
theorem IsUsed.le {many:List Int} {n:Nat} {u:List Nat} (h:IsUsed many n u):u.length≤n:=by
 have h1:=(Ym h.nodup fun i hi=>((h.mem i).1 hi).1).length_eq;have h2:=List.length_filter_le (fun s=>decide (s∈u)) (List.range n);rw [List.length_range] at h2;omega
theorem IsUsed.nil (many:List Int):IsUsed many 0 []:=⟨fun i=>by simp,List.Pairwise.nil⟩
theorem IsUsed.skip {many:List Int} {n:Nat} {u:List Nat} (h:IsUsed many n u) (hn : ¬ 0<many.getD n 0):IsUsed many (n+1) u :=
 ⟨fun i=>by
  rw [h.mem];by_cases e:i=n
  · subst e; constructor
    · intro k; omega
    · intro k; exact absurd k.2 hn
  · constructor<;>intro k<;>exact ⟨by omega,k.2⟩,h.srt⟩
def lvs (many:List Int) (u:List Nat):List Coin:=u.map fun s => .leaf (yy (many.getD s 0)) s
theorem zdE (many:List Int) (u:List Nat):(lvs many u).length=u.length:=by simp [lvs]
theorem zf7 {many:List Int} {u:List Nat} (h:u.Pairwise (Ahead many)):vH (lvs many u):=by
 unfold vH lvs;rw [List.pairwise_map];exact h.imp fun hab=>by
  unfold Ahead at hab;show yy _≤yy _;omega
def qF (many:List Int) (u:List Nat) (L s:Nat):Nat:=jG s ((yb (lvs many u) L).take (2*u.length-2))
theorem zd9 (n:Nat) (g:Nat→Nat) (u:List Nat) (hnd:u.Nodup) (hlt : ∀ s∈u,s<n) (h0 : ∀ s,s<n→s∉u→g s=0):yz n g=(u.map g).sum:=by
 rw [((Ym hnd hlt).map g).sum_nat];unfold yz;have : ∀ l:List Nat,(∀ s∈l,s<n)→(l.map g).sum=((l.filter fun s=>decide (s∈u)).map g).sum:=by
  intro l
  induction l with
  | nil=>intro _; rfl
  | cons x r ih =>
    intro hl;rw [List.map_cons,List.sum_cons,ih fun s hs=>hl s (List.mem_cons_of_mem _ hs),List.filter_cons];by_cases hx:x∈u
    · rw [if_pos (by simpa using hx),List.map_cons,List.sum_cons]
    · rw [if_neg (by simpa using hx),h0 x (hl x List.mem_cons_self) hx]; omega
 exact this _ fun s hs=>List.mem_range.1 hs
theorem zhy (u:List Nat) (g:Nat→Nat):(u.map g).sum=yz u.length (fun i=>g (u.getD i 0)):=by
 have h : ∀ m,m≤u.length→((u.take m).map g).sum=yz m (fun i=>g (u.getD i 0)):=by
  intro m
  induction m with
  | zero=>intro _; rfl
  | succ m ih =>
    intro hm;rw [List.take_succ_eq_append_getElem (by omega),List.map_append,List.sum_append_nat,ih (by omega),yi];simp [List.getD_eq_getElem?_getD,List.getElem?_eq_getElem (show m<u.length by omega)]
 have h1:=h u.length (Nat.le_refl _);rwa [List.take_length] at h1
theorem Ks (many:List Int) (u:List Nat) (L:Nat) (hs:u.Pairwise (Ahead many)) (h2:2≤u.length) (hL:u.length≤2^L) :
 2*u.length-2≤(yb (lvs many u) L).length ∧ ∃ c:Nat→Nat,(∀ i,i<u.length→1≤c i∧c i≤L)∧(∀ i k,i≤k→c k≤c i)∧yz u.length (fun i=>2^(L-c i))=2^L ∧
  (∀ i (h:i<u.length),qF many u L u[i]=c i)∧(∀ s,s∉u→qF many u L s=0) ∧
  ∀ ks:List Nat,ks.length=u.length→(∀ k∈ks,k≤L)→Jz L ks≤2^L→yz u.length (fun i=>yy (many.getD (u.getD i 0) 0)*c i)≤yz u.length (fun i=>yy (many.getD (u.getD i 0) 0)*ks.getD i 0):=by
 have hr:=zf7 hs;have hnd:u.Nodup:=hs.imp Ahead.ne;have hl:=zdE many u;obtain ⟨h1,ts,t1,t2,t3,t4,t5,t6⟩:=zi4 (lvs many u) hr L (by omega) (by omega);rw [hl] at h1 t3 t4 t5 t6;have hlv : ∀ i,i<u.length→(lvs many u).getD i (.leaf 0 0) = .leaf (yy (many.getD (u.getD i 0) 0)) (u.getD i 0):=by
  intro i hi;simp [lvs,List.getD_eq_getElem?_getD,hi]
 refine ⟨h1,xS ts,t4,fun i k hik=>ze3 ts hik,t3,?_,?_,?_⟩
 · intro i hi;unfold qF;rw [t6];have e : ∀ m,m≤u.length→yz m (fun k=>((lvs many u).getD k (.leaf 0 0)).cnt u[i]*xS ts k)=if i<m then xS ts i else 0:=by
    intro m
    induction m with
    | zero=>intro _; simp [yz]
    | succ m ih =>
      intro hm;rw [yi,ih (by omega),hlv m (by omega)];have hg:u.getD m 0=u[m]:=(by rw [List.getD_eq_getElem?_getD,List.getElem?_eq_getElem (by omega)]; rfl);rw [hg];simp only [Coin.cnt];by_cases e:i=m
      · subst e;simp
      · have hne : ¬ u[m]=u[i]:=fun q=>e ((List.getElem_inj hnd).1 q.symm);by_cases h:i<m
        · simp [hne,h,show i<m+1 by omega]
        · simp [hne,h,show ¬ i<m+1 by omega]
   rw [e _ (Nat.le_refl _),if_pos hi]
 · intro s hs;unfold qF;rw [t6];have e:yz u.length (fun k=>((lvs many u).getD k (.leaf 0 0)).cnt s*xS ts k)=yz u.length (fun _=>0):=ql fun i hi=>by
    rw [hlv i hi];simp only [Coin.cnt];have hg:u.getD i 0=u[i]:=(by rw [List.getD_eq_getElem?_getD,List.getElem?_eq_getElem hi]; rfl);rw [hg,if_neg (fun q=>hs (by rw [← q]; exact List.getElem_mem hi)),Nat.zero_mul]
   rw [e,kZ,Nat.mul_zero]
 · intro ks k1 k2 k3;have h:=zfM (lvs many u) hr L ((lvs many u).zip ks) (by rw [List.map_fst_zip (by omega)]) (fun p hp=>k2 p.2 (List.of_mem_zip hp).2) (by
    have e:((lvs many u).zip ks).map (fun p=>2^(L-p.2))=ks.map fun k=>2^(L-k):=by
     rw [show (fun p:Coin×Nat=>2^(L-p.2))=(fun k=>2^(L-k))∘Prod.snd from rfl,← List.map_map,List.map_snd_zip (by omega)]
    rw [e];exact k3)
   rw [hl,t5] at h;have e1:yz u.length (fun i=>((lvs many u).getD i (.leaf 0 0)).w*xS ts i)=yz u.length (fun i=>yy (many.getD (u.getD i 0) 0)*xS ts i):=ql fun i hi=>(by rw [hlv i hi]; rfl);rw [e1] at h;have e2:(((lvs many u).zip ks).map fun p=>p.1.w*p.2).sum=yz u.length (fun i=>yy (many.getD (u.getD i 0) 0)*ks.getD i 0):=by
    have : ∀ m,m≤u.length→((((lvs many u).zip ks).take m).map fun p=>p.1.w*p.2).sum=yz m (fun i=>yy (many.getD (u.getD i 0) 0)*ks.getD i 0):=by
     intro m
     induction m with
     | zero=>intro _; rfl
     | succ m ih =>
       intro hm;have hz:m<((lvs many u).zip ks).length:=(by rw [List.length_zip,hl,k1]; omega);rw [List.take_succ_eq_append_getElem hz,List.map_append,List.sum_append_nat,ih (by omega),yi,List.getElem_zip];have hv:=hlv m (by omega);rw [List.getD_eq_getElem?_getD,List.getElem?_eq_getElem (by omega)] at hv;simp only [Option.getD_some] at hv;rw [hv];simp [Coin.w,List.getD_eq_getElem?_getD,List.getElem?_eq_getElem (show m<ks.length by omega)]
    have h:=this u.length (Nat.le_refl _);rwa [List.take_of_length_le (by rw [List.length_zip,hl,k1]; omega)] at h
   rw [e2] at h;exact h
end Go.Proofs.YtfkenhihcmmgkaaGreatDoor
namespace Go.Proofs.YtfkenhihcmmgkaaGreatDoor
open Go.RowKit
theorem ze1 (n:Int):max 0 (min n 1073741824)=((yy n:Nat):Int):=by unfold yy; omega
theorem YG (n:Int) (w:World):Calls Tryz.prog 333 #[.int .i64 n] w fun e w'=>e = .returned (.int .i64 (yy n:Nat))∧w=w':=by
 have h:=ze1 n;generalize yy n=N at *;go_enter Tryz.func333,Tryz.ntmps333;go_wp2;go_ret;exact ⟨rfl,rfl⟩
theorem zeZ (n:Int) (w:World):Calls Tryz.prog 351 #[.int .i64 n] w fun e w'=>e = .returned (.bool false)∧w=w':=by
 go_enter Tryz.func351,Tryz.ntmps351;go_wp2;go_ret;exact ⟨rfl,rfl⟩
def QX (a b:Nat):Int:=if a<b then -1 else if b<a then 1 else 0
theorem JD (a b:Nat):(a<b∧QX a b = -1)∨(b<a∧QX a b=1)∨(a=b∧QX a b=0):=by
 unfold QX;by_cases h:a<b
 · exact .inl ⟨h,if_pos h⟩
 · by_cases h2:b<a
   · exact .inr (.inl ⟨h2,by rw [if_neg h,if_pos h2]⟩)
   · exact .inr (.inr ⟨by omega,by rw [if_neg h,if_neg h2]⟩)
theorem ZH (a b:Nat) (w:World):Calls Tryz.prog 332 #[.int .i64 (a:Nat),.int .i64 (b:Nat)] w fun e w'=>e = .returned (.int .i64 (QX a b))∧w=w':=by
 have HN:=Hi (fun n w=>zeZ n w);rcases JD a b with ⟨h,e⟩ | ⟨h,e⟩ | ⟨h,e⟩
 · rw [e];have hz:(a:Int)<(b:Int):=(by omega);go_enter Tryz.func332,Tryz.ntmps332;go_wp2_with (go_at_call 351; refine (HN.out _ _).mono ?_; rintro e w' ⟨rfl,rfl⟩)
   go_ret;exact ⟨rfl,rfl⟩
 · rw [e];have hz : ¬ (a:Int)<(b:Int):=(by omega);have hz2:(b:Int)<(a:Int):=(by omega);go_enter Tryz.func332,Tryz.ntmps332;go_wp2_with (go_at_call 351; refine (HN.out _ _).mono ?_; rintro e w' ⟨rfl,rfl⟩)
   go_ret;exact ⟨rfl,rfl⟩
 · rw [e];subst h;have hz : ¬ (a:Int)<(a:Int):=(by omega);go_enter Tryz.func332,Tryz.ntmps332;go_wp2_with (go_at_call 351; refine (HN.out _ _).mono ?_; rintro e w' ⟨rfl,rfl⟩)
   go_ret;exact ⟨rfl,rfl⟩
def orN (x y:Int):Int:=if x=0 then y else x
theorem zj1 (b:Nat) (x y:Int) (w:World) (h0:w.cell? ⟨b,0,none⟩=some (.int .i64 x)) (h1:w.cell? ⟨b,1,none⟩=some (.int .i64 y)) :
 Calls Tryz.prog 331 #[.slice (some ⟨b,0,none⟩) 2 2] w fun e w'=>e = .returned (.int .i64 (orN x y))∧w=w':=by
 have h01:w.cell? ⟨b,0+1,none⟩=some (.int .i64 y):=h1;by_cases hx:x=0
 · have e:orN x y=y:=(by unfold orN; rw [if_pos hx]);rw [e];subst hx;by_cases hy:y=0
   · subst hy;go_enter Tryz.func331,Tryz.ntmps331;go_wp2;refine wp_loop_rounds 3 ?_;rw [rounds_succ];go_wp2;rw [rounds_succ];go_wp2;rw [rounds_succ];go_wp2;go_ret;exact ⟨rfl,rfl⟩
   · have t1:(y != 0)=true:=(by simpa using hy);go_enter Tryz.func331,Tryz.ntmps331;go_wp2;refine wp_loop_rounds 3 ?_;rw [rounds_succ];go_wp2;rw [rounds_succ];go_wp2;go_ret;exact ⟨rfl,rfl⟩
 · have e:orN x y=x:=(by unfold orN; rw [if_neg hx]);rw [e];have t1:(x != 0)=true:=(by simpa using hx);go_enter Tryz.func331,Tryz.ntmps331;go_wp2;refine wp_loop_rounds 3 ?_;rw [rounds_succ];go_wp2;go_ret;exact ⟨rfl,rfl⟩
end Go.Proofs.YtfkenhihcmmgkaaGreatDoor
