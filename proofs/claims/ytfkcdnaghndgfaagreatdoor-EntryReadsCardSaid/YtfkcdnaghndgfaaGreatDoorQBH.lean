/- Package merge (plain): the lengths: they are whole, none above the limit, fall as the weights rise, and cost the least. -/
import Derived.Test.YtfkcdnaghndgfaaGreatDoorQBG
import Derived.Test.YtfkcdnaghndgfaaGreatDoorQAB
import Derived.Lib.AppendZerosOnto
import Derived.Test.YtfkcdnaghndgfaaGreatDoorQAQ
import Derived.Deep.Slices
import Derived.Deep.Fields
import Derived.ChangeSame
import Derived.ProofKit
import Derived.OpenShut
set_option linter.unusedVariables false
set_option linter.unusedSimpArgs false
set_option linter.unusedSectionVars false
namespace Go.Proofs.YtfkcdnaghndgfaaGreatDoor
def xP (ts:List Nat) (i:Nat):Nat:=ts.countP fun t=>decide (i<t)
theorem WE (i:Nat):xP [] i=0:=rfl
theorem VC (t:Nat) (ts:List Nat) (i:Nat):xP (t::ts) i=xP ts i+if i<t then 1 else 0:=by
 unfold xP
 rw [List.countP_cons]
 simp
theorem zhM (ts:List Nat) (i:Nat):xP ts i≤ts.length:=List.countP_le_length
theorem zdQ {ts:List Nat} {i:Nat} (h : ∀ t∈ts,t≤i):xP ts i=0:=by
 unfold xP
 rw [List.countP_eq_zero]
 intro t ht
 simpa using h t ht
theorem zeY (ts:List Nat) {i k:Nat} (h:i≤k):xP ts k≤xP ts i:=by
 unfold xP
 apply List.countP_mono_left
 intro t _ ht
 simp at ht ⊢
 omega
def yt (n:Nat) (f:Nat→Nat):Nat:=((List.range n).map f).sum
theorem zX (n:Nat) (f:Nat→Nat):yt (n+1) f=yt n f+f n:=by simp [yt,List.range_succ]
theorem qg {n:Nat} {f g:Nat→Nat} (h : ∀ i,i<n→f i=g i):yt n f=yt n g:=by
 induction n with
 | zero=>rfl
 | succ n ih=>rw [zX,zX,ih (fun i hi=>h i (by omega)),h n (by omega)]
theorem kM (n a:Nat):yt n (fun _=>a)=n*a:=by
 induction n with
 | zero=>simp [yt]
 | succ n ih=>rw [zX,ih,Nat.succ_mul]
theorem zai (n:Nat) : ∀ (ts:List Nat),(∀ t∈ts,t≤n)→ts.Pairwise (fun a b=>b≤a)→yt n (fun i=>2^(ts.length-xP ts i))+amt ts=n*2^ts.length
 | [],_,_=>by
   simp only [amt,List.length_nil,WE,Nat.sub_self,Nat.pow_zero,kM]
   omega
 | t::ts,h1,h2=>by
   have ht:t≤n:=h1 t List.mem_cons_self
   have h2':=List.pairwise_cons.1 h2
   have ih:=zai n ts (fun x hx=>h1 x (List.mem_cons_of_mem _ hx)) h2'.2
   have e : ∀ m,m≤n→yt m (fun i=>2^((t::ts).length-xP (t::ts) i))=yt m (fun i=>2^(ts.length-xP ts i))+(m-t)*2^ts.length:=by
    intro m
    induction m with
    | zero=>intro _; simp [yt]
    | succ m ihm =>
      intro hm
      rw [zX,zX,ihm (by omega),VC,List.length_cons]
      by_cases hlt:m<t
      · rw [if_pos hlt,show m-t=0 by omega,show m+1-t=0 by omega,show ts.length+1-(xP ts m+1)=ts.length-xP ts m by omega]
        omega
      · rw [if_neg hlt,zdQ (i:=m) (fun x hx=>Nat.le_trans (h2'.1 x hx) (by omega)),show m+1-t=(m-t)+1 by omega,Nat.succ_mul]
        simp only [Nat.add_zero,Nat.sub_zero,Nat.pow_succ]
        omega
   rw [e n (Nat.le_refl _)]
   simp only [amt,List.length_cons,Nat.pow_succ]
   have p1:n*(2^ts.length*2)=n*2^ts.length+n*2^ts.length:=by rw [← Nat.mul_assoc]; omega
   have p2:(n-t)*2^ts.length+t*2^ts.length=n*2^ts.length:=by
    rw [← Nat.add_mul,show n-t+t=n by omega]
   omega
theorem KU (n:Nat) (v:Nat→Nat) (S:Nat→Nat) (hS : ∀ t,t≤n→S t=yt t v) : ∀ (ts:List Nat),(∀ t∈ts,t≤n)→(ts.map S).sum=yt n (fun i=>v i*xP ts i)
 | [],_=>by simp [WE,kM]
 | t::ts,h=>by
   have ih:=KU n v S hS ts (fun x hx=>h x (List.mem_cons_of_mem _ hx))
   have ht:t≤n:=h t List.mem_cons_self
   rw [List.map_cons,List.sum_cons,ih,hS t ht]
   have e : ∀ m,m≤n→yt m (fun i=>v i*xP (t::ts) i)=yt (min m t) v+yt m (fun i=>v i*xP ts i):=by
    intro m
    induction m with
    | zero=>intro _; simp [yt]
    | succ m ihm =>
      intro hm
      rw [zX,zX,ihm (by omega),VC]
      by_cases hlt:m<t
      · rw [if_pos hlt,show min (m+1) t=m+1 by omega,show min m t=m by omega,zX,Nat.mul_add]
        omega
      · rw [if_neg hlt,show min (m+1) t=t by omega,show min m t=t by omega,Nat.add_zero]
        omega
   rw [e n (Nat.le_refl _),Nat.min_eq_right ht]
theorem ze4 {s l:List Coin} (h:s.Sublist l) (hr:vF l):yK (l.take s.length)≤yK s:=by
 induction h with
 | slnil=>exact Nat.le_refl _
 | @cons s l x hs ih =>
   have hr':=List.pairwise_cons.1 hr
   have ih:=ih hr'.2
   cases hk:s.length with
   | zero=>simp [yK]
   | succ k =>
     rw [hk] at ih
     have hkl:k<l.length:=by have:=hs.length_le; omega
     rw [List.take_succ_eq_append_getElem hkl,jg] at ih
     rw [List.take_succ_cons,xx]
     have h1:=hr'.1 _ (List.getElem_mem hkl)
     have h2:yK [l[k]]=l[k].w:=by simp [yK]
     omega
 | @cons_cons s l x hs ih =>
   have ih:=ih (List.pairwise_cons.1 hr).2
   rw [List.length_cons,List.take_succ_cons,xx,xx]
   omega
def Qr:Nat→List (Coin×Nat)→List (Nat×Nat)
 | 0,_=>[]
 | L+1,ps=>(((ps.filter fun p=>decide (0<p.2)).length),((ps.filter fun p=>decide (0<p.2)).map fun p=>p.1.w).sum)::Qr L (ps.map fun p=>(p.1,p.2-1))
theorem kh : ∀ (L:Nat) (ps:List (Coin×Nat)),(Qr L ps).length=L
 | 0,_=>rfl
 | L+1,ps=>by rw [Qr,List.length_cons,kh L]
theorem zaQ : ∀ (L:Nat) (ps:List (Coin×Nat)),(∀ p∈ps,p.2≤L)→amt ((Qr L ps).map Prod.fst)+(ps.map fun p=>2^(L-p.2)).sum=ps.length*2^L
 | 0,ps,h=>by
   simp only [Qr,List.map_nil,amt,Nat.zero_sub,Nat.pow_zero,Nat.mul_one,Nat.zero_add]
   induction ps with
   | nil=>rfl
   | cons p ps ih=>rw [List.map_cons,List.sum_cons,ih (fun q hq=>h q (List.mem_cons_of_mem _ hq)),List.length_cons]; omega
 | L+1,ps,h=>by
   have ih:=zaQ L (ps.map fun p=>(p.1,p.2-1)) (fun p hp=>by
    obtain ⟨q,hq,rfl⟩:=List.mem_map.1 hp
    have:=h q hq
    show q.2-1≤L
    omega)
   rw [List.length_map,List.map_map] at ih
   have e:(ps.map fun p=>2^(L+1-p.2)).sum+(ps.filter fun p=>decide (0<p.2)).length*2^L=(ps.map ((fun p:Coin×Nat=>2^(L-p.2))∘fun p=>(p.1,p.2-1))).sum+ps.length*2^L:=by
    clear ih
    induction ps with
    | nil=>rfl
    | cons p ps ih =>
      have ih:=ih (fun q hq=>h q (List.mem_cons_of_mem _ hq))
      have hp:=h p List.mem_cons_self
      simp only [List.map_cons,List.sum_cons,List.length_cons,List.filter_cons,Function.comp_apply,Nat.succ_mul]
      by_cases h0:0<p.2
      · rw [if_pos (by simpa using h0),List.length_cons,Nat.succ_mul,show L-(p.2-1)=L+1-p.2 by omega]
        omega
      · have hz:p.2=0:=by omega
        rw [if_neg (by simpa using h0),hz]
        simp only [Nat.sub_zero,Nat.zero_sub,Nat.pow_succ]
        omega
   rw [Qr,List.map_cons]
   simp only [amt,List.length_map,kh]
   rw [Nat.pow_succ]
   have p1:ps.length*(2^L*2)=ps.length*2^L+ps.length*2^L:=by rw [← Nat.mul_assoc]; omega
   omega
theorem Wq : ∀ (L:Nat) (ps:List (Coin×Nat)),(∀ p∈ps,p.2≤L)→((Qr L ps).map Prod.snd).sum=(ps.map fun p=>p.1.w*p.2).sum
 | 0,ps,h=>by
   simp only [Qr,List.map_nil,List.sum_nil]
   induction ps with
   | nil=>rfl
   | cons p ps ih =>
     have:=h p List.mem_cons_self
     rw [List.map_cons,List.sum_cons,← ih (fun q hq=>h q (List.mem_cons_of_mem _ hq)),show p.2=0 by omega]
     omega
 | L+1,ps,h=>by
   have ih:=Wq L (ps.map fun p=>(p.1,p.2-1)) (fun p hp=>by
    obtain ⟨q,hq,rfl⟩:=List.mem_map.1 hp
    have:=h q hq
    show q.2-1≤L
    omega)
   rw [Qr,List.map_cons,List.sum_cons,ih]
   clear ih
   rw [List.map_map]
   show ((ps.filter fun p=>decide (0<p.2)).map fun p=>p.1.w).sum+_=_
   induction ps with
   | nil=>rfl
   | cons p ps ih =>
     have ih:=ih (fun q hq=>h q (List.mem_cons_of_mem _ hq))
     simp only [List.map_cons,List.sum_cons,List.filter_cons,Function.comp_apply]
     by_cases h0:0<p.2
     · rw [if_pos (by simpa using h0),List.map_cons,List.sum_cons]
       obtain ⟨k,hk⟩ : ∃ k,p.2=k+1:=⟨p.2-1,by omega⟩
       rw [hk,Nat.add_sub_cancel,Nat.mul_succ]
       omega
     · have hz:p.2=0:=by omega
       rw [if_neg (by simpa using h0),hz]
       omega
theorem zcL (lv:List Coin) (hr:vF lv) : ∀ (L:Nat) (ps:List (Coin×Nat)),ps.map Prod.fst=lv → ∀ q∈Qr L ps,q.1≤lv.length∧yK (lv.take q.1)≤q.2
 | 0,_,_,q,hq=>by simp [Qr] at hq
 | L+1,ps,hps,q,hq=>by
   rw [Qr] at hq
   rcases List.mem_cons.1 hq with rfl | hq
   · have hs:((ps.filter fun p=>decide (0<p.2)).map Prod.fst).Sublist lv:=by
      rw [← hps]
      exact List.Sublist.map _ List.filter_sublist
     have h1:=ze4 hs hr
     have h2:=hs.length_le
     rw [List.length_map] at h1 h2
     refine ⟨h2,Nat.le_trans h1 ?_⟩
     simp [yK]
     exact Nat.le_refl _
   · exact zcL lv hr L _ (by rw [List.map_map,← hps]; rfl) q hq
theorem zdE (lv:List Coin) (hr:vF lv) (L:Nat) (ps:List (Coin×Nat)) (hps:ps.map Prod.fst=lv) (hle : ∀ p∈ps,p.2≤L) (hk:(ps.map fun p=>2^(L-p.2)).sum≤2^L) :
 yK ((zQ lv L).take (2*lv.length-2))≤(ps.map fun p=>p.1.w*p.2).sum:=by
 have h1:=zaQ L ps hle
 have hl:ps.length=lv.length:=by rw [← hps,List.length_map]
 have h2:=VP lv hr (Qr L ps) (2*lv.length-2) (zcL lv hr L ps hps) (by
  rw [kh]
  cases hn:lv.length with
  | zero=>simp
  | succ n =>
    rw [hl,hn,Nat.succ_mul] at h1
    rw [show 2*(n+1)-2=2*n by omega,Nat.mul_assoc]
    omega)
 rw [kh,Wq L ps hle] at h2
 exact h2.2
theorem zhL (lv:List Coin) (hr:vF lv) (L:Nat) (hn:2≤lv.length) (hL:lv.length≤2^L) :
 2*lv.length-2≤(zQ lv L).length ∧ ∃ ts:List Nat,ts.length=L∧(∀ t∈ts,t≤lv.length)∧yt lv.length (fun i=>2^(L-xP ts i))=2^L∧(∀ i,i<lv.length→1≤xP ts i∧xP ts i≤L) ∧
  yK ((zQ lv L).take (2*lv.length-2))=yt lv.length (fun i=>(lv.getD i (.leaf 0 0)).w*xP ts i) ∧ ∀ s,jH s ((zQ lv L).take (2*lv.length-2))=yt lv.length (fun i=>(lv.getD i (.leaf 0 0)).cnt s*xP ts i):=by
 have hlen:2*lv.length-2≤(zQ lv L).length:=ZE lv L _ (by
  obtain ⟨m,hm⟩ : ∃ m,lv.length=m+2:=⟨lv.length-2,by omega⟩
  rw [hm] at hL ⊢
  obtain ⟨q,hq⟩ : ∃ q,2^L=q+1:=⟨2^L-1,by omega⟩
  rw [hq] at hL ⊢
  rw [show 2*(m+2)-2=2*m+2 by omega,show q+1-1=q by omega]
  simp only [Nat.mul_add,Nat.add_mul]
  omega)
 obtain ⟨ts,h1,h2,h3,h4,h5,h6,_⟩:=Va lv hr L _ hlen
 have hk:=zai lv.length ts h2 h3
 rw [h1] at hk
 have hkr:yt lv.length (fun i=>2^(L-xP ts i))=2^L:=by
  obtain ⟨m,hm⟩ : ∃ m,lv.length=m+1:=⟨lv.length-1,by omega⟩
  rw [hm] at h4 hk ⊢
  rw [show 2*(m+1)-2=2*m by omega,Nat.mul_assoc] at h4
  rw [Nat.succ_mul] at hk
  omega
 have takeW : ∀ (f:Coin→Nat) (t:Nat),t≤lv.length→((lv.take t).map f).sum=yt t (fun i=>f (lv.getD i (.leaf 0 0))):=by
  intro f t
  induction t with
  | zero=>intro _; rfl
  | succ t ih =>
    intro ht
    rw [List.take_succ_eq_append_getElem (by omega),List.map_append,List.sum_append_nat,ih (by omega),zX]
    simp [List.getD_eq_getElem?_getD,List.getElem?_eq_getElem (show t<lv.length by omega)]
 refine ⟨hlen,ts,h1,h2,hkr,?_,?_,?_⟩
 · intro i hi
   refine ⟨?_,by rw [← h1]; exact zhM ts i⟩
   apply Nat.pos_of_ne_zero
   intro h0
   have hpos : ∀ m,m≤lv.length→(i<m→2^L+(m-1)≤yt m (fun i=>2^(L-xP ts i)))∧m≤yt m (fun i=>2^(L-xP ts i)):=by
    intro m
    induction m with
    | zero=>intro _; exact ⟨fun h=>by omega,Nat.zero_le _⟩
    | succ m ih =>
      intro hm
      obtain ⟨i1,i2⟩:=ih (by omega)
      rw [zX]
      have hp:0<2^(L-xP ts m):=Nat.two_pow_pos _
      refine ⟨fun h=>?_,by omega⟩
      by_cases e:i=m
      · subst e
        rw [h0,Nat.sub_zero]
        omega
      · have:=i1 (by omega)
        omega
   have:=(hpos lv.length (Nat.le_refl _)).1 hi
   omega
 · rw [h5]
   exact KU lv.length (fun i=>(lv.getD i (.leaf 0 0)).w) _ (fun t ht=>takeW Coin.w t ht) ts h2
 · intro s
   rw [h6]
   exact KU lv.length (fun i=>(lv.getD i (.leaf 0 0)).cnt s) _ (fun t ht=>takeW (Coin.cnt s) t ht) ts h2
end Go.Proofs.YtfkcdnaghndgfaaGreatDoor
namespace Go.Proofs.YtfkcdnaghndgfaaGreatDoor
def Jq (limit:Nat) (ks:List Nat):Nat:=(ks.map fun k=>2^(limit-k)).sum
theorem Xb (limit k:Nat) (ks:List Nat):Jq limit (k::ks)=2^(limit-k)+Jq limit ks:=by simp [Jq]
end Go.Proofs.YtfkcdnaghndgfaaGreatDoor
namespace Go.Proofs.YtfkcdnaghndgfaaGreatDoor
def yr (n:Int):Nat:=(max 0 (min n 1073741824)).toNat
theorem zar (n:Int):yr n≤1073741824:=by unfold yr; omega
def Ahead (many:List Int) (a b:Nat):Prop:=yr (many.getD a 0)<yr (many.getD b 0)∨(yr (many.getD a 0)=yr (many.getD b 0)∧a<b)
theorem Ahead.irrefl {many:List Int} {a:Nat} : ¬ Ahead many a a:=fun h=>by rcases h with h | h<;>omega
theorem Ahead.asymm {many:List Int} {a b:Nat} (h:Ahead many a b) : ¬ Ahead many b a:=fun k=>by
 rcases h with h | h<;>rcases k with k | k<;>omega
theorem Ahead.ne {many:List Int} {a b:Nat} (h:Ahead many a b):a≠b:=fun e=>by subst e; exact h.irrefl
theorem Ahead.trans {many:List Int} {a b c:Nat} (h:Ahead many a b) (k:Ahead many b c):Ahead many a c:=by
 unfold Ahead at *; omega
structure IsUsed (many:List Int) (n:Nat) (u:List Nat):Prop where
 mem : ∀ i,i∈u↔i<n∧0<many.getD i 0
 srt:u.Pairwise (Ahead many)
theorem zbb (many:List Int) : ∀ (u v:List Nat),u.Pairwise (Ahead many)→v.Pairwise (Ahead many)→(∀ i,i∈u↔i∈v)→u=v
 | [],[],_,_,_=>rfl
 | [],y::v,_,_,h=>absurd ((h y).2 List.mem_cons_self) (by simp)
 | x::u,[],_,_,h=>absurd ((h x).1 List.mem_cons_self) (by simp)
 | x::u,y::v,hu,hv,h=>by
   have hu':=List.pairwise_cons.1 hu
   have hv':=List.pairwise_cons.1 hv
   have e:x=y:=by
    rcases List.mem_cons.1 ((h x).1 List.mem_cons_self) with e | hx
    · exact e
    · rcases List.mem_cons.1 ((h y).2 List.mem_cons_self) with e | hy
      · exact e.symm
      · exact absurd (hu'.1 y hy) (hv'.1 x hx).asymm
   subst e
   rw [zbb many u v hu'.2 hv'.2 fun i=>?_]
   constructor
   · intro hi
     rcases List.mem_cons.1 ((h i).1 (List.mem_cons_of_mem _ hi)) with e | hi'
     · exact absurd e.symm (hu'.1 i hi).ne
     · exact hi'
   · intro hi
     rcases List.mem_cons.1 ((h i).2 (List.mem_cons_of_mem _ hi)) with e | hi'
     · exact absurd e.symm (hv'.1 i hi).ne
     · exact hi'
theorem IsUsed.uniq {many:List Int} {n:Nat} {u v:List Nat} (h:IsUsed many n u) (k:IsUsed many n v):u=v :=
 zbb many u v h.srt k.srt fun i=>(h.mem i).trans (k.mem i).symm
theorem IsUsed.nodup {many:List Int} {n:Nat} {u:List Nat} (h:IsUsed many n u):u.Nodup:=h.srt.imp Ahead.ne
theorem Xm {n:Nat} {u:List Nat} (hnd:u.Nodup) (hlt : ∀ s∈u,s<n):u.Perm ((List.range n).filter fun s=>decide (s∈u)):=by
 rw [List.perm_ext_iff_of_nodup hnd (List.nodup_range.filter _)]
 intro s
 rw [List.mem_filter,List.mem_range]
 simp only [decide_eq_true_eq]
 exact ⟨fun h=>⟨hlt s h,h⟩,fun h=>h.2⟩
theorem IsUsed.le {many:List Int} {n:Nat} {u:List Nat} (h:IsUsed many n u):u.length≤n:=by
 have h1:=(Xm h.nodup fun i hi=>((h.mem i).1 hi).1).length_eq
 have h2:=List.length_filter_le (fun s=>decide (s∈u)) (List.range n)
 rw [List.length_range] at h2
 omega
theorem IsUsed.nil (many:List Int):IsUsed many 0 []:=⟨fun i=>by simp,List.Pairwise.nil⟩
theorem IsUsed.skip {many:List Int} {n:Nat} {u:List Nat} (h:IsUsed many n u) (hn : ¬ 0<many.getD n 0):IsUsed many (n+1) u :=
 ⟨fun i=>by
  rw [h.mem]
  by_cases e:i=n
  · subst e; constructor
    · intro k; omega
    · intro k; exact absurd k.2 hn
  · constructor<;>intro k<;>exact ⟨by omega,k.2⟩,h.srt⟩
def lvs (many:List Int) (u:List Nat):List Coin:=u.map fun s => .leaf (yr (many.getD s 0)) s
theorem zcV (many:List Int) (u:List Nat):(lvs many u).length=u.length:=by simp [lvs]
theorem zgo {many:List Int} {u:List Nat} (h:u.Pairwise (Ahead many)):vF (lvs many u):=by
 unfold vF lvs
 rw [List.pairwise_map]
 exact h.imp fun hab=>by
  unfold Ahead at hab
  show yr _≤yr _
  omega
def qF (many:List Int) (u:List Nat) (L s:Nat):Nat:=jH s ((zQ (lvs many u) L).take (2*u.length-2))
theorem zc3 (n:Nat) (g:Nat→Nat) (u:List Nat) (hnd:u.Nodup) (hlt : ∀ s∈u,s<n) (h0 : ∀ s,s<n→s∉u→g s=0):yt n g=(u.map g).sum:=by
 rw [((Xm hnd hlt).map g).sum_nat]
 unfold yt
 have : ∀ l:List Nat,(∀ s∈l,s<n)→(l.map g).sum=((l.filter fun s=>decide (s∈u)).map g).sum:=by
  intro l
  induction l with
  | nil=>intro _; rfl
  | cons x r ih =>
    intro hl
    rw [List.map_cons,List.sum_cons,ih fun s hs=>hl s (List.mem_cons_of_mem _ hs),List.filter_cons]
    by_cases hx:x∈u
    · rw [if_pos (by simpa using hx),List.map_cons,List.sum_cons]
    · rw [if_neg (by simpa using hx),h0 x (hl x List.mem_cons_self) hx]; omega
 exact this _ fun s hs=>List.mem_range.1 hs
theorem zfX (u:List Nat) (g:Nat→Nat):(u.map g).sum=yt u.length (fun i=>g (u.getD i 0)):=by
 have h : ∀ m,m≤u.length→((u.take m).map g).sum=yt m (fun i=>g (u.getD i 0)):=by
  intro m
  induction m with
  | zero=>intro _; rfl
  | succ m ih =>
    intro hm
    rw [List.take_succ_eq_append_getElem (by omega),List.map_append,List.sum_append_nat,ih (by omega),zX]
    simp [List.getD_eq_getElem?_getD,List.getElem?_eq_getElem (show m<u.length by omega)]
 have h1:=h u.length (Nat.le_refl _)
 rwa [List.take_length] at h1
theorem Ki (many:List Int) (u:List Nat) (L:Nat) (hs:u.Pairwise (Ahead many)) (h2:2≤u.length) (hL:u.length≤2^L) :
 2*u.length-2≤(zQ (lvs many u) L).length ∧ ∃ c:Nat→Nat,(∀ i,i<u.length→1≤c i∧c i≤L)∧(∀ i k,i≤k→c k≤c i)∧yt u.length (fun i=>2^(L-c i))=2^L ∧
  (∀ i (h:i<u.length),qF many u L u[i]=c i)∧(∀ s,s∉u→qF many u L s=0) ∧
  ∀ ks:List Nat,ks.length=u.length→(∀ k∈ks,k≤L)→Jq L ks≤2^L→yt u.length (fun i=>yr (many.getD (u.getD i 0) 0)*c i)≤yt u.length (fun i=>yr (many.getD (u.getD i 0) 0)*ks.getD i 0):=by
 have hr:=zgo hs
 have hnd:u.Nodup:=hs.imp Ahead.ne
 have hl:=zcV many u
 obtain ⟨h1,ts,t1,t2,t3,t4,t5,t6⟩:=zhL (lvs many u) hr L (by omega) (by omega)
 rw [hl] at h1 t3 t4 t5 t6
 have hlv : ∀ i,i<u.length→(lvs many u).getD i (.leaf 0 0) = .leaf (yr (many.getD (u.getD i 0) 0)) (u.getD i 0):=by
  intro i hi
  simp [lvs,List.getD_eq_getElem?_getD,hi]
 refine ⟨h1,xP ts,t4,fun i k hik=>zeY ts hik,t3,?_,?_,?_⟩
 · intro i hi
   unfold qF
   rw [t6]
   have e : ∀ m,m≤u.length→yt m (fun k=>((lvs many u).getD k (.leaf 0 0)).cnt u[i]*xP ts k)=if i<m then xP ts i else 0:=by
    intro m
    induction m with
    | zero=>intro _; simp [yt]
    | succ m ih =>
      intro hm
      rw [zX,ih (by omega),hlv m (by omega)]
      have hg:u.getD m 0=u[m]:=by rw [List.getD_eq_getElem?_getD,List.getElem?_eq_getElem (by omega)]; rfl
      rw [hg]
      simp only [Coin.cnt]
      by_cases e:i=m
      · subst e
        simp
      · have hne : ¬ u[m]=u[i]:=fun q=>e ((List.getElem_inj hnd).1 q.symm)
        by_cases h:i<m
        · simp [hne,h,show i<m+1 by omega]
        · simp [hne,h,show ¬ i<m+1 by omega]
   rw [e _ (Nat.le_refl _),if_pos hi]
 · intro s hs
   unfold qF
   rw [t6]
   have e:yt u.length (fun k=>((lvs many u).getD k (.leaf 0 0)).cnt s*xP ts k)=yt u.length (fun _=>0):=qg fun i hi=>by
    rw [hlv i hi]
    simp only [Coin.cnt]
    have hg:u.getD i 0=u[i]:=by rw [List.getD_eq_getElem?_getD,List.getElem?_eq_getElem hi]; rfl
    rw [hg,if_neg (fun q=>hs (by rw [← q]; exact List.getElem_mem hi)),Nat.zero_mul]
   rw [e,kM,Nat.mul_zero]
 · intro ks k1 k2 k3
   have h:=zdE (lvs many u) hr L ((lvs many u).zip ks) (by rw [List.map_fst_zip (by omega)]) (fun p hp=>k2 p.2 (List.of_mem_zip hp).2) (by
    have e:((lvs many u).zip ks).map (fun p=>2^(L-p.2))=ks.map fun k=>2^(L-k):=by
     rw [show (fun p:Coin×Nat=>2^(L-p.2))=(fun k=>2^(L-k))∘Prod.snd from rfl,← List.map_map,List.map_snd_zip (by omega)]
    rw [e]
    exact k3)
   rw [hl,t5] at h
   have e1:yt u.length (fun i=>((lvs many u).getD i (.leaf 0 0)).w*xP ts i)=yt u.length (fun i=>yr (many.getD (u.getD i 0) 0)*xP ts i):=qg fun i hi=>by rw [hlv i hi]; rfl
   rw [e1] at h
   have e2:(((lvs many u).zip ks).map fun p=>p.1.w*p.2).sum=yt u.length (fun i=>yr (many.getD (u.getD i 0) 0)*ks.getD i 0):=by
    have : ∀ m,m≤u.length→((((lvs many u).zip ks).take m).map fun p=>p.1.w*p.2).sum=yt m (fun i=>yr (many.getD (u.getD i 0) 0)*ks.getD i 0):=by
     intro m
     induction m with
     | zero=>intro _; rfl
     | succ m ih =>
       intro hm
       have hz:m<((lvs many u).zip ks).length:=by rw [List.length_zip,hl,k1]; omega
       rw [List.take_succ_eq_append_getElem hz,List.map_append,List.sum_append_nat,ih (by omega),zX,List.getElem_zip]
       have hv:=hlv m (by omega)
       rw [List.getD_eq_getElem?_getD,List.getElem?_eq_getElem (by omega)] at hv
       simp only [Option.getD_some] at hv
       rw [hv]
       simp [Coin.w,List.getD_eq_getElem?_getD,List.getElem?_eq_getElem (show m<ks.length by omega)]
    have h:=this u.length (Nat.le_refl _)
    rwa [List.take_of_length_le (by rw [List.length_zip,hl,k1]; omega)] at h
   rw [e2] at h
   exact h
end Go.Proofs.YtfkcdnaghndgfaaGreatDoor
namespace Go.Proofs.YtfkcdnaghndgfaaGreatDoor
open Go.RowKit
theorem zew (n:Int):max 0 (min n 1073741824)=((yr n:Nat):Int):=by unfold yr; omega
theorem Xo (n:Int) (w:World):Calls Tryz.prog 197 #[.int .i64 n] w fun e w'=>e = .returned (.int .i64 (yr n:Nat))∧w=w':=by
 have h:=zew n
 generalize yr n=N at *
 go_enter Tryz.func197,Tryz.ntmps197
 go_wp2
 go_ret
 exact ⟨rfl,rfl⟩
theorem zeU (n:Int) (w:World):Calls Tryz.prog 224 #[.int .i64 n] w fun e w'=>e = .returned (.bool false)∧w=w':=by
 go_enter Tryz.func224,Tryz.ntmps224
 go_wp2
 go_ret
 exact ⟨rfl,rfl⟩
def Qy (a b:Nat):Int:=if a<b then -1 else if b<a then 1 else 0
theorem Ju (a b:Nat):(a<b∧Qy a b = -1)∨(b<a∧Qy a b=1)∨(a=b∧Qy a b=0):=by
 unfold Qy
 by_cases h:a<b
 · exact .inl ⟨h,if_pos h⟩
 · by_cases h2:b<a
   · exact .inr (.inl ⟨h2,by rw [if_neg h,if_pos h2]⟩)
   · exact .inr (.inr ⟨by omega,by rw [if_neg h,if_neg h2]⟩)
theorem Zf (a b:Nat) (w:World):Calls Tryz.prog 196 #[.int .i64 (a:Nat),.int .i64 (b:Nat)] w fun e w'=>e = .returned (.int .i64 (Qy a b))∧w=w':=by
 have HN:=Lib.hid (fun n w=>zeU n w)
 rcases Ju a b with ⟨h,e⟩ | ⟨h,e⟩ | ⟨h,e⟩
 · rw [e]
   have hz:(a:Int)<(b:Int):=by omega
   go_enter Tryz.func196,Tryz.ntmps196
   go_wp2_with (go_at_call 224; refine (HN.out _ _).mono ?_; rintro e w' ⟨rfl,rfl⟩)
   go_ret
   exact ⟨rfl,rfl⟩
 · rw [e]
   have hz : ¬ (a:Int)<(b:Int):=by omega
   have hz2:(b:Int)<(a:Int):=by omega
   go_enter Tryz.func196,Tryz.ntmps196
   go_wp2_with (go_at_call 224; refine (HN.out _ _).mono ?_; rintro e w' ⟨rfl,rfl⟩)
   go_ret
   exact ⟨rfl,rfl⟩
 · rw [e]
   subst h
   have hz : ¬ (a:Int)<(a:Int):=by omega
   go_enter Tryz.func196,Tryz.ntmps196
   go_wp2_with (go_at_call 224; refine (HN.out _ _).mono ?_; rintro e w' ⟨rfl,rfl⟩)
   go_ret
   exact ⟨rfl,rfl⟩
def orN (x y:Int):Int:=if x=0 then y else x
theorem ziF (b:Nat) (x y:Int) (w:World) (h0:w.cell? ⟨b,0,none⟩=some (.int .i64 x)) (h1:w.cell? ⟨b,1,none⟩=some (.int .i64 y)) :
 Calls Tryz.prog 195 #[.slice (some ⟨b,0,none⟩) 2 2] w fun e w'=>e = .returned (.int .i64 (orN x y))∧w=w':=by
 have h01:w.cell? ⟨b,0+1,none⟩=some (.int .i64 y):=h1
 by_cases hx:x=0
 · have e:orN x y=y:=by unfold orN; rw [if_pos hx]
   rw [e]
   subst hx
   by_cases hy:y=0
   · subst hy
     go_enter Tryz.func195,Tryz.ntmps195
     go_wp2
     refine wp_loop_rounds 3 ?_
     rw [rounds_succ]
     go_wp2
     rw [rounds_succ]
     go_wp2
     rw [rounds_succ]
     go_wp2
     go_ret
     exact ⟨rfl,rfl⟩
   · have t1:(y != 0)=true:=by simpa using hy
     go_enter Tryz.func195,Tryz.ntmps195
     go_wp2
     refine wp_loop_rounds 3 ?_
     rw [rounds_succ]
     go_wp2
     rw [rounds_succ]
     go_wp2
     go_ret
     exact ⟨rfl,rfl⟩
 · have e:orN x y=x:=by unfold orN; rw [if_neg hx]
   rw [e]
   have t1:(x != 0)=true:=by simpa using hx
   go_enter Tryz.func195,Tryz.ntmps195
   go_wp2
   refine wp_loop_rounds 3 ?_
   rw [rounds_succ]
   go_wp2
   go_ret
   exact ⟨rfl,rfl⟩
end Go.Proofs.YtfkcdnaghndgfaaGreatDoor
namespace Go.Proofs.YtfkcdnaghndgfaaGreatDoor
open Go.RowKit
def CoinAt (w:World):Value→Coin→Prop
 | p,.leaf wt s => ∃ b,p = .pointer (some ⟨b,0,none⟩)∧Blk w b [.int .i64 (wt:Nat),.int .i64 (s:Nat),.slice none 0 0] 262
 | p,.pack a c => ∃ (b g i cap:Nat) (pa pc:Value) (arr:Array Value) (fr:Nat×Nat),p = .pointer (some ⟨b,0,none⟩)∧Blk w b [.int .i64 ((a.w+c.w:Nat):Int),.int .i64 0,.slice (some ⟨g,i,none⟩) 2 cap] 262 ∧
  w.heap[g]? =some (.cells arr 260 fr)∧arr[i]? =some pa∧arr[i+1]? =some pc∧CoinAt w pa a∧CoinAt w pc c
def KeepC (w w':World):Prop := ∀ (k:Nat) (cs:Array Value) (t:TypeId) (fr:Nat×Nat),w.heap[k]? =some (.cells cs t fr)→t=262∨t=260→w'.heap[k]? =some (.cells cs t fr)
theorem KeepC.of_upd {w w':World} (h:Upd [] w w'):KeepC w w':=fun k cs t fr hk _=>(h.block k (Array.getElem?_eq_some_iff.1 hk).1 (by simp)).trans hk
theorem KeepC.trans {a b c:World} (h:KeepC a b) (k:KeepC b c):KeepC a c:=fun i cs t fr hi ht=>k i cs t fr (h i cs t fr hi ht) ht
theorem KeepC.of_ints {w w':World} {b:Nat} {cs:List Value} (hB:Blk w b cs 3) (h:Upd [b] w w'):KeepC w w':=fun k ds t fr hk ht=>by
 refine (h.block k (Array.getElem?_eq_some_iff.1 hk).1 (fun hm=>?_)).trans hk
 have e:k=b:=by simpa using hm
 subst e
 unfold Blk at hB
 rw [hB] at hk
 simp at hk
 rcases ht with rfl | rfl
 · exact absurd hk.2.1 (by decide)
 · exact absurd hk.2.1 (by decide)
theorem CoinAt.keep {w w':World} (hk:KeepC w w') : ∀ {c:Coin} {p:Value},CoinAt w p c→CoinAt w' p c
 | .leaf wt s,p,h=>by
   obtain ⟨b,rfl,hB⟩:=h
   exact ⟨b,rfl,hk b _ _ _ hB (.inl rfl)⟩
 | .pack a c,p,h=>by
   obtain ⟨b,g,i,cap,pa,pc,arr,fr,rfl,hB,hg,h1,h2,h3,h4⟩:=h
   exact ⟨b,g,i,cap,pa,pc,arr,fr,rfl,hk b _ _ _ hB (.inl rfl),hk g _ _ _ hg (.inr rfl),h1,h2,CoinAt.keep hk h3,CoinAt.keep hk h4⟩
theorem CoinAt.upd {w w':World} (h:Upd [] w w') {c:Coin} {p:Value} (hc:CoinAt w p c):CoinAt w' p c:=hc.keep (KeepC.of_upd h)
theorem CoinAt.head {w:World} {c:Coin} {p:Value} (h:CoinAt w p c) : ∃ b u v,p = .pointer (some ⟨b,0,none⟩)∧Blk w b [.int .i64 (c.w:Nat),u,v] 262:=by
 cases c with
 | leaf wt s=>obtain ⟨b,rfl,hB⟩:=h; exact ⟨b,_,_,rfl,hB⟩
 | pack a c=>obtain ⟨b,g,i,cap,pa,pc,arr,fr,rfl,hB,_⟩:=h; exact ⟨b,_,_,rfl,hB⟩
def CoinsAt (w:World) (ps:List Value) (cs:List Coin):Prop:=ps.length=cs.length ∧ ∀ (i:Nat) (p:Value) (c:Coin),ps[i]? =some p→cs[i]? =some c→CoinAt w p c
theorem CoinsAt.nil (w:World):CoinsAt w [] []:=⟨rfl,fun i p c h=>by simp at h⟩
theorem CoinsAt.keep {w w':World} (hk:KeepC w w') {ps:List Value} {cs:List Coin} (h:CoinsAt w ps cs):CoinsAt w' ps cs:=⟨h.1,fun i p c h1 h2=>(h.2 i p c h1 h2).keep hk⟩
theorem CoinsAt.upd {w w':World} (hu:Upd [] w w') {ps:List Value} {cs:List Coin} (h:CoinsAt w ps cs):CoinsAt w' ps cs:=h.keep (KeepC.of_upd hu)
theorem CoinsAt.snoc {w:World} {ps:List Value} {cs:List Coin} {p:Value} {c:Coin} (h:CoinsAt w ps cs) (hc:CoinAt w p c):CoinsAt w (ps++[p]) (cs++[c]):=by
 refine ⟨by simp [h.1],fun i q d h1 h2=>?_⟩
 by_cases hi:i<ps.length
 · rw [List.getElem?_append_left hi] at h1
   rw [List.getElem?_append_left (by rw [← h.1]; exact hi)] at h2
   exact h.2 i q d h1 h2
 · rw [List.getElem?_append_right (by omega)] at h1
   rw [List.getElem?_append_right (by rw [← h.1]; omega),← h.1] at h2
   cases hk:i-ps.length with
   | zero=>rw [hk] at h1 h2; simp at h1 h2; subst h1 h2; exact hc
   | succ k=>rw [hk] at h1; simp at h1
theorem CoinsAt.drop {w:World} {ps:List Value} {cs:List Coin} (h:CoinsAt w ps cs) (n:Nat):CoinsAt w (ps.drop n) (cs.drop n) :=
 ⟨by simp [h.1],fun i p c h1 h2=>h.2 (n+i) p c (by rw [← List.getElem?_drop]; exact h1) (by rw [← List.getElem?_drop]; exact h2)⟩
theorem CoinsAt.append {w:World} {ps qs:List Value} {cs ds:List Coin} (h:CoinsAt w ps cs) (k:CoinsAt w qs ds):CoinsAt w (ps++qs) (cs++ds):=by
 refine ⟨by simp [h.1,k.1],fun i q d h1 h2=>?_⟩
 by_cases hi:i<ps.length
 · rw [List.getElem?_append_left hi] at h1
   rw [List.getElem?_append_left (by rw [← h.1]; exact hi)] at h2
   exact h.2 i q d h1 h2
 · rw [List.getElem?_append_right (by omega)] at h1
   rw [List.getElem?_append_right (by rw [← h.1]; omega),← h.1] at h2
   exact k.2 _ q d h1 h2
theorem zgH (p q:Value) (c d:Coin) (w:World) (hc:CoinAt w p c) (hd:CoinAt w q d) :
 Calls Tryz.prog 217 #[p,q] w fun e w'=>e = .returned (.bool (decide (c.w<d.w)))∧Upd [] w w':=by
 obtain ⟨b1,u1,v1,rfl,hB1⟩:=hc.head
 obtain ⟨b2,u2,v2,rfl,hB2⟩:=hd.head
 have c1:=hB1.cell 0 rfl
 have c2:=hB2.cell 0 rfl
 generalize c.w=m at *
 generalize d.w=n at *
 clear hB1 hB2 hc hd
 have hdd:decide ((m:Int)<(n:Int))=decide (m<n):=by
  by_cases h:m<n
  · rw [decide_eq_true h,decide_eq_true (by omega)]
  · rw [decide_eq_false h,decide_eq_false (by omega)]
 have HDD:=Lib.hid hdd
 clear hdd
 go_enter Tryz.func217,Tryz.ntmps217
 go_wp2
 go_quiet (fail)
 go_wp2
 go_ret
 exact ⟨by first | rfl | rw [HDD.out] | (simp; done),(Upd.refl _ _).drewN _⟩
theorem Xd:(Tryz.prog.info? 260).map (fun i=>(i.zero,i.size,i.bytes))=some (some (.pointer none),1,8):=by kernel_rfl
def OwnC (w0 w:World) (v:Value) (xs:List Value):Prop:=Row w 260 1 v xs.length xs ∧ ∀ k,v.ownBlock=some k→w0.heap.size≤k
theorem OwnC.nil (w0 w:World):OwnC w0 w (.slice none 0 0) []:=⟨Row.nil _ _ _,fun k h=>by cases h⟩
theorem OwnC.upd {w0 w w':World} {v:Value} {xs:List Value} (h:OwnC w0 w v xs) (hu:Upd [] w w'):OwnC w0 w' v xs:=⟨h.1.upd hu (by simp),h.2⟩
theorem OwnC.app {w0 w w':World} {v v':Value} {xs ys:List Value} (h:OwnC w0 w v xs) (hu:Upd [] w0 w) (hR:Row w' 260 1 v' (xs.length+ys.length) (xs++ys)) (hU:Upd v.ownBlock.toList w w') (hT:Later w v v') :
 OwnC w0 w' v' (xs++ys)∧Upd [] w0 w':=by
 refine ⟨⟨by rw [List.length_append]; exact hR,fun k hk=>?_⟩,hu.trans hU (fun k hk => .inr (h.2 k (by simpa using hk)))⟩
 rcases hT with h1 | ⟨g,h1,h2⟩
 · exact h.2 k (by rw [← h1]; exact hk)
 · rw [h1] at hk; simp at hk h2; have:=hu.size; omega
theorem OwnC.form {w0 w:World} {v:Value} {xs:List Value} (h:OwnC w0 w v xs) : ∃ a c,v = .slice a xs.length c:=h.1.form
set_option maxRecDepth 100000 in
set_option maxHeartbeats 3200000 in
theorem zaX (n:Nat) (w:World) (h0:0<n) (hn:n≤1000000) :
 Calls Tryz.prog 245 #[.slice none 0 0,.int .i64 (n:Nat)] w fun e w' => ∃ v,e = .returned v∧OwnC w w' v []∧Upd [] w w' ∧ ∃ g c,v = .slice (some ⟨g,0,none⟩) 0 c:=by
 obtain ⟨i0,hi,hz0,hz1,hz2⟩:=info_parts Xd
 have hold:(Builtin.firstCells i0.size 0 (.slice none 0 0)).run Tryz.prog w.drew = .ok ([]:List Value).toArray w.drew:=run_firstCells_none w.drew i0.size 0 0 0
 have hGn:=grownCap_ge w n 0 260
 have hGm:=grownCap_le_maxLen w n 0 260 (by unfold maxLen; omega)
 obtain ⟨Z,hZ⟩ : ∃ Z,([]:List Value).toArray++Builtin.zeroCells (Value.pointer none).cells n++Builtin.zeroCells (Value.pointer none).cells (grownCap w n 0 260-n)=Z:=⟨_,rfl⟩
 have hrz : ∀ ty,(Builtin.append_ #[259,3] ty #[.slice none 0 0,.int .i64 (n:Int)]).run Tryz.prog w =
  .ok (.slice (some ⟨w.heap.size,0,none⟩) n (grownCap w n 0 260)) ((w.alloc (.cells Z 260)).drew):=fun ty=>by
  have h:=Lib.run_append_grow_zeros (P:=Tryz.prog) w 259 3 ty 260 i0 (.pointer none) .i64 .i64 Tryz.underlying259 Tryz.underlying3 hi hz0 none 0 0 [] hold n (by omega) (by omega) (by omega) (by omega) (by rw [hz2]; omega) (by rw [hz2]; exact growslice_fits (by omega) (by omega))
  rw [Nat.zero_add,hZ] at h
  exact h
 have hZs:Z.size=grownCap w n 0 260:=by
  rw [← hZ]
  simp [Builtin.zeroCells,Value.cells]
  omega
 clear hZ
 generalize grownCap w n 0 260=G at *
 have HE:Hid (OwnC w ((w.alloc (.cells Z 260)).drew) (.slice (some ⟨w.heap.size,0,none⟩) 0 G) []):=Lib.hid
  ⟨⟨rfl,.inr ⟨w.heap.size,G,Z,rfl,Nat.zero_le _,heap_alloc_new w _,Nat.zero_le _,hGm,by rw [hZs,Nat.mul_one],rfl⟩⟩,fun k hk=>by simp [Value.ownBlock] at hk; omega⟩
 clear hZs
 unfold maxLen at hGm
 have hnz : ¬ (n:Int)<0:=by omega
 have hnp:(0:Int)<(n:Int):=by omega
 clear hold hi hz0 hz1 hz2
 go_enter Tryz.func245,Tryz.ntmps245
 go_wp2_with (at_builtin; refine Lib.wpList_append_run _ rfl _ _ _ _ rfl _ _ rfl rfl _ _ (hrz _) ?_)
 go_ret
 exact ⟨_,rfl,HE.out,((Upd.refl _ _).alloc _).drew,_,_,rfl⟩
end Go.Proofs.YtfkcdnaghndgfaaGreatDoor
namespace Go.Proofs.YtfkcdnaghndgfaaGreatDoor
open Go.ChangeShapes Go.WideShapes Go.Deep
theorem kz (b off k:Nat):(⟨b,off,none⟩:Addr).add k=⟨b,off+k,none⟩:=by unfold Addr.add; split<;>simp_all
theorem add_zero (a:Addr):a.add 0=a:=by unfold Addr.add; simp
section
variable {H:Type} {enc:TypeId×Value→H} {P:Program} {w:World} {base:Nat} {spare:Nat→Bool} {held:Bool}
theorem zg5 {t:TypeId} {fs:Array Field} {fuel:Nat} {cs:List Value} {x:DataW H×List MemPlace} (he:P.underlying t=some (.struct fs)) (hone:oneCellFields P fs=true) (hlen:cs.length=fs.size)
 (h:DataW.trod enc P w base spare held fuel t cs=some x) :
 ∃ n,∀ (j:Nat) (f:Field),fs[j]? =some f → ∃ u y,cs[j]? =some u∧DataW.trod enc P w base spare held n f.type [u]=some y:=by
 obtain ⟨ys,k,_,_,_,hyl,hf⟩:=DataW.trod_struct he h
 refine ⟨k,fun j f hj=>?_⟩
 obtain ⟨ho,hk⟩:=hone_of hone j f hj
 have hjl:j<fs.size:=(Array.getElem?_eq_some_iff.1 hj).1
 have hd:=hf j f hj
 rw [ho,hk,List.drop_eq_getElem_cons (by omega)] at hd
 refine ⟨cs[j]'(by omega),ys[j]'(by omega),List.getElem?_eq_getElem (by omega),?_⟩
 rw [List.getElem?_eq_getElem (by omega)] at hd; exact hd
end
end Go.Proofs.YtfkcdnaghndgfaaGreatDoor
