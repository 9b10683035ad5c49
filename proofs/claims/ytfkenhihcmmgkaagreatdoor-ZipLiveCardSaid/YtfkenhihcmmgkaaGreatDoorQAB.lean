/- Plain mathematics of codes of unlike lengths: how many symbols have each length, their sum, the first codes, the codes. -/
import Derived.Test.YtfkenhihcmmgkaaGreatDoorQAA
import Derived.Test.YtfkenhihcmmgkaaGreatDoorRows
import Derived.Handy
import Derived.Lib.MinMax
import Derived.IntWalk
import Derived.BigQuiet
import Derived.StillTailTactics
import Derived.Deep.QuietTactic
import Derived.Deep.RegionHeld3
import Derived.Deep.RegionLaw
import Derived.Deep.DeepCutAuto
import Derived.Deep.DeepFit
import Derived.Deep.LoopGhost
import Derived.Deep.Light
import Derived.Deep.CutBlock
import Derived.Outline
import Derived.WalkSpells
import Derived.Laws.CopyOwn
set_option linter.unusedVariables false
set_option linter.unusedSimpArgs false
set_option linter.unusedSectionVars false
set_option maxRecDepth 100000
set_option maxHeartbeats 12800000
namespace Go.Proofs.YtfkenhihcmmgkaaGreatDoor
def yM (l:List Int):Bool:=decide (l.length≤300)&&l.all fun k=>decide (0≤k)&&decide (k≤15)
def zj (l:List Int):List Nat:=l.map Int.toNat
theorem zC {l:List Int} (h:yM l=true):l.length≤300 ∧ ∀ k∈l,0≤k∧k≤15:=by
 simp only [yM,Bool.and_eq_true,decide_eq_true_eq,List.all_eq_true] at h;exact h
theorem kw {l:List Int} (h1:l.length≤300) (h2 : ∀ k∈l,0≤k∧k≤15):yM l=true:=by
 simp only [yM,Bool.and_eq_true,decide_eq_true_eq,List.all_eq_true];exact ⟨h1,h2⟩
theorem yj (l:List Int):(zj l).length=l.length:=by simp [zj]
def cnt (n:List Nat) (k:Nat):Nat:=if k=0 then 0 else n.count k
def wt (x:Nat):Nat:=if x=0 then 0 else 2^(15-x)
def yF (n:List Nat):Nat:=(n.map wt).sum
def je (n:List Nat):Nat→Nat
 | 0=>0
 | k+1=>je n k+cnt n k*2^(15-k)
def jq (n:List Nat):Nat:=if yF n=0 then 0 else if yF n<32768 then 2 else if yF n=32768 then 1 else 3
def zm (l:List Int):Nat:=if yM l then jq (zj l) else 3
def fst (n:List Nat):Nat→Nat
 | 0=>0
 | k+1=>2*(fst n k+cnt n k)
def zS (n:List Nat) (i:Nat):Nat:=if n.getD i 0=0 then 0 else fst n (n.getD i 0)+(n.take i).count (n.getD i 0)
def jo (n:List Nat):List Nat:=(List.range n.length).map (zS n)
theorem zhS (n:List Nat) (k:Nat):cnt n k≤n.length:=by
 unfold cnt; split
 · omega
 · exact List.count_le_length
theorem zbs (n:List Nat) (x k:Nat):cnt (n++[x]) k=cnt n k+if x=k∧k≠0 then 1 else 0:=by
 unfold cnt;by_cases hk:k=0
 · simp [hk]
 · by_cases hx:x=k
   · subst hx; simp [hk]
   · simp [hk,hx]
theorem Kk (n:List Nat) (x:Nat):yF (n++[x])=yF n+wt x:=by simp [yF]
theorem zee (n:List Nat) (x k:Nat):je (n++[x]) k=je n k+if x<k then wt x else 0:=by
 induction k with
 | zero=>simp [je]
 | succ k ih =>
   simp only [je,ih,zbs];by_cases h1:x=k
   · subst h1;simp only [Nat.lt_irrefl,if_false,Nat.lt_succ_self,if_true,wt];by_cases h0:x=0
     · simp [h0]
     · simp [h0,Nat.add_mul]; omega
   · by_cases h2:x<k
     · simp [h1,h2,show x<k+1 by omega]; try omega
     · simp [h1,h2,show ¬ x<k+1 by omega]
theorem YQ {α:Type} {p:List α→Prop} (h0:p []) (hs : ∀ l x,p l→p (l++[x])) (l:List α):p l:=by
 have : ∀ k (l:List α),l.length=k→p l:=fun k=>by
  induction k with
  | zero=>intro l hl; rw [List.eq_nil_of_length_eq_zero hl]; exact h0
  | succ k ih =>
    intro l hl;have hne:l≠[]:=(by intro h; rw [h] at hl; simp at hl);rw [← List.dropLast_concat_getLast hne];exact hs _ _ (ih _ (by simp [hl]))
 exact this _ l rfl
theorem Kj (n:List Nat):(∀ x∈n,x≤15)→je n 16=yF n:=by
 induction n using YQ with
 | h0=>intro _; rfl
 | hs l x ih =>
   intro h;rw [zee,Kk,ih (fun y hy=>h y (by simp [hy])),if_pos (by have:=h x (by simp); omega)]
theorem zgH (n:List Nat) (k:Nat) (hk:k≤15):fst n k*2^(15-k)=je n k:=by
 induction k with
 | zero=>simp [fst,je]
 | succ k ih =>
   have h:=ih (by omega);have e:2^(15-k)=2*2^(15-(k+1)):=(by rw [show 15-k=(15-(k+1))+1 by omega,Nat.pow_succ,Nat.mul_comm]);simp only [fst,je];rw [← h,← Nat.add_mul,e,Nat.mul_comm 2,Nat.mul_assoc]
theorem zek (n:List Nat) {j k:Nat} (h:j≤k):je n j≤je n k:=by
 induction k with
 | zero=>have:j=0:=by omega
         subst this; exact Nat.le_refl _
 | succ k ih =>
   by_cases hj:j=k+1
   · subst hj; exact Nat.le_refl _
   · exact Nat.le_trans (ih (by omega)) (by simp [je])
theorem Ji (n:List Nat) (hs:je n 16≤32768) (k:Nat) (hk:k≤15):fst n k+cnt n k≤2^k:=by
 have h1:=zgH n k hk;have h2:je n (k+1)≤32768:=Nat.le_trans (zek n (by omega)) hs;simp only [je] at h2;rw [← h1,← Nat.add_mul] at h2;have h3:2^k*2^(15-k)=32768:=by rw [← Nat.pow_add,show k+(15-k)=15 by omega]
 rw [← h3] at h2;exact Nat.le_of_mul_le_mul_right h2 (Nat.two_pow_pos _)
theorem zii (n:List Nat) (k:Nat) (hk:k≤16) (hn:n.length≤300):je n k≤k*9830400:=by
 induction k with
 | zero=>simp [je]
 | succ k ih =>
   have h1:=ih (by omega);have h2:=zhS n k;have h3:2^(15-k)≤2^15:=Nat.pow_le_pow_right (by omega) (by omega);have h4:cnt n k*2^(15-k)≤300*2^15:=Nat.mul_le_mul (by omega) h3;simp only [je];omega
theorem zkg (x:Nat):wt x≤32768:=by
 unfold wt; split
 · omega
 · exact Nat.pow_le_pow_right (by omega) (show 15-x≤15 by omega)
theorem ZT (n:List Nat) (i x:Nat) (h:i<n.length) (hx:n.getD i 0=x):(n.take i).count x+1≤n.count x:=by
 have h1:n=n.take i++n[i]::n.drop (i+1):=by rw [List.getElem_cons_drop,List.take_append_drop]
 have h2:n[i]=x:=by rw [← hx]; simp [List.getD,h]
 conv=>rhs; rw [h1]
 rw [List.count_append,h2,List.count_cons_self]; omega
theorem zbN (n:List Nat):jq n=3↔32768<yF n:=by
 unfold jq;split
 · omega
 · split
   · omega
   · split<;>omega
def cl0 (n:List Nat):List Nat:=(List.range 16).map fun k=>n.count k
def cl (n:List Nat):List Nat:=(List.range 16).map (cnt n)
theorem qn (n:List Nat):(cl0 n).length=16:=by simp [cl0]
theorem xE (n:List Nat):(cl n).length=16:=by simp [cl]
theorem Qq (n:List Nat) (k:Nat) (h:k<16):(cl0 n)[k]? =some (n.count k):=by simp [cl0,h]
theorem XP (n:List Nat) (k:Nat) (h:k<16):(cl n)[k]? =some (cnt n k):=by simp [cl,h]
theorem zhJ (n:List Nat) (x:Nat) (h:x<16):cl0 (n++[x])=(cl0 n).set x (n.count x+1):=by
 apply List.ext_getElem?;intro k;by_cases hk:k<16
 · rw [Qq _ _ hk,List.getElem?_set,Qq _ _ hk];by_cases hx:x=k
   · subst hx; simp [qn,h]
   · simp [hx]
 · rw [List.getElem?_eq_none (by rw [qn]; omega),List.getElem?_eq_none (by rw [List.length_set,qn]; omega)]
theorem zjL (n:List Nat):(cl0 n).set 0 0=cl n:=by
 apply List.ext_getElem?;intro k;by_cases hk:k<16
 · rw [XP _ _ hk,List.getElem?_set,Qq _ _ hk];by_cases hx:0=k
   · subst hx; simp [qn,cnt]
   · simp [hx,cnt,show ¬ k=0 by omega]
 · rw [List.getElem?_eq_none (by rw [List.length_set,qn]; omega),List.getElem?_eq_none (by rw [xE]; omega)]
theorem take_snoc' {α:Type} (l:List α) (i:Nat) (h:i<l.length):l.take (i+1)=l.take i++[l[i]]:=List.take_succ_eq_append_getElem h
theorem Zx {l:List Int} {i:Nat} (h:i<l.length) (hi:yM (l.take i)=true) (hl:l.length≤300) (h0:0≤l[i]) (h1:l[i]≤15):yM (l.take (i+1))=true:=by
 have h2:=zC hi;refine kw (by simp; omega) (fun k hk=>?_);rw [take_snoc' l i h] at hk;rcases List.mem_append.1 hk with hk | hk
 · exact h2.2 k hk
 · simp at hk; subst hk; exact ⟨h0,h1⟩
theorem Yy {l:List Int} {i:Nat} (h:i<l.length) (hb : ¬ (0≤l[i]∧l[i]≤15)):yM l=false:=by
 cases hc:yM l with
 | false=>rfl
 | true=>exact absurd ((zC hc).2 _ (List.getElem_mem h)) hb
theorem Zr {l:List Int} (h:300<l.length):yM l=false:=by
 cases hc:yM l with
 | false=>rfl
 | true=>exact absurd (zC hc).1 (by omega)
def fl (n:List Nat):List Nat:=(List.range 16).map (fst n)
def flp (n:List Nat) (k:Nat):List Nat:=(List.range 16).map fun j=>if j<k then fst n j else 0
def nx (n:List Nat) (i:Nat):List Nat:=(List.range 16).map fun k=>fst n k+cnt (n.take i) k
def JV (n:List Nat) (i:Nat):List Nat:=(List.range n.length).map fun j=>if j<i then zS n j else 0
theorem Jr {f g:Nat→Nat} {m k x:Nat} (hx:k<m→g k=x) (ho : ∀ j,j<m→j≠k→g j=f j):((List.range m).map f).set k x=(List.range m).map g:=by
 apply List.ext_getElem?;intro j;by_cases hj:j<m
 · rw [List.getElem?_set];by_cases hk:k=j
   · subst hk; simp [hj,hx hj]
   · simp [hk,hj,ho j hj (fun e=>hk e.symm)]
 · rw [List.getElem?_eq_none (by simp; omega),List.getElem?_eq_none (by simp; omega)]
theorem Kn (n:List Nat):(fl n).length=16:=by simp [fl]
theorem zb6 (n:List Nat) (k:Nat):(flp n k).length=16:=by simp [flp]
theorem ZD (n:List Nat) (i:Nat):(JV n i).length=n.length:=by simp [JV]
theorem zje (n:List Nat) (k:Nat):(flp n k).set k (fst n k)=flp n (k+1) :=
 Jr (fun _=>by simp) (fun j _ hj=>by
  by_cases h:j<k
  · simp [h,show j<k+1 by omega]
  · simp [h,show ¬ j<k+1 by omega])
theorem Kp (n:List Nat) (k j:Nat) (h:j<16):(flp n k)[j]? =some (if j<k then fst n j else 0):=by simp [flp,h]
theorem zjI (n:List Nat):flp n 16=fl n:=by
 unfold flp fl;apply List.map_congr_left;intro j hj;rw [List.mem_range] at hj;rw [if_pos hj]
theorem zjg (n:List Nat):flp n 1=List.replicate 16 0:=by
 apply List.ext_getElem?;intro j;by_cases hj:j<16
 · rw [Kp _ _ _ hj,List.getElem?_replicate,if_pos hj];by_cases h:j<1
   · have:j=0:=(by omega);subst this; simp [fst]
   · simp [h]
 · rw [List.getElem?_eq_none (by rw [zb6]; omega),List.getElem?_eq_none (by simp; omega)]
theorem zkK (n:List Nat):nx n 0=fl n:=by
 unfold nx fl;apply List.map_congr_left;intro j _;simp [cnt]
theorem zjP (n:List Nat) (i k:Nat) (h:k<16):(nx n i)[k]? =some (fst n k+cnt (n.take i) k):=by simp [nx,h]
theorem Qy (n:List Nat) (i k:Nat) (h:i<n.length):cnt (n.take (i+1)) k=cnt (n.take i) k+if n[i]=k∧k≠0 then 1 else 0:=by
 rw [take_snoc' n i h,zbs]
theorem zjz (n:List Nat) (i:Nat) (h:i<n.length) (hp:n[i]≠0):(nx n i).set n[i] (fst n n[i]+cnt (n.take i) n[i]+1)=nx n (i+1) :=
 Jr (fun _=>by rw [Qy _ _ _ h]; simp [hp]; omega) (fun j _ hj=>by
  simp only [Qy _ _ _ h];rw [if_neg (fun e=>hj e.1.symm)]; omega)
theorem zh5 (n:List Nat) (i:Nat) (h:i<n.length) (hp:n[i]=0):nx n (i+1)=nx n i:=by
 unfold nx;apply List.map_congr_left;intro j _;rw [Qy _ _ _ h,hp];by_cases hj:j=0
 · simp [hj]
 · simp [show ¬ 0=j by omega]
theorem Yr (n:List Nat) (i:Nat) (h:i<n.length) (hp:n[i]≠0):zS n i=fst n n[i]+cnt (n.take i) n[i]:=by
 have:n.getD i 0=n[i]:=by simp [List.getD,h]
 unfold zS cnt;rw [this,if_neg hp,if_neg hp]
theorem zbi (n:List Nat) (i:Nat) (h:i<n.length) (hp:n[i]=0):zS n i=0:=by
 have:n.getD i 0=n[i]:=by simp [List.getD,h]
 unfold zS;rw [this,if_pos hp]
theorem zhK (n:List Nat) (i:Nat):(JV n i).set i (zS n i)=JV n (i+1) :=
 Jr (fun _=>by simp) (fun j _ hj=>by
  by_cases h:j<i
  · simp [h,show j<i+1 by omega]
  · simp [h,show ¬ j<i+1 by omega])
theorem zew (n:List Nat) (i:Nat) (h:i<n.length) (hp:n[i]=0):JV n (i+1)=JV n i:=by
 unfold JV;apply List.map_congr_left;intro j hj;rw [List.mem_range] at hj;by_cases h1:j<i
 · simp [h1,show j<i+1 by omega]
 · by_cases h2:j=i
   · subst h2; simp [zbi n j h hp]
   · simp [h1,show ¬ j<i+1 by omega]
theorem zjW (n:List Nat):JV n 0=List.replicate n.length 0:=by
 apply List.ext_getElem?;intro j;by_cases hj:j<n.length
 · simp [JV,hj]
 · rw [List.getElem?_eq_none (by rw [ZD]; omega),List.getElem?_eq_none (by simp; omega)]
theorem zgA (n:List Nat):JV n n.length=jo n:=by
 unfold JV jo;apply List.map_congr_left;intro j hj;rw [List.mem_range] at hj;rw [if_pos hj]
theorem Zy (n:List Nat) (i k:Nat):cnt (n.take i) k≤cnt n k:=by
 unfold cnt;split
 · omega
 · exact List.Sublist.count_le _ (List.take_sublist i n)
theorem KV {l:List Int} (h:yM l=true) : ∀ x∈zj l,x≤15:=fun x hx=>by
 simp only [zj,List.mem_map] at hx;obtain ⟨y,hy,rfl⟩:=hx;have:=(zC h).2 y hy; omega
theorem qS {l:List Int} (h:zm l≠3):yM l=true∧je (zj l) 16≤32768:=by
 unfold zm at h;by_cases hok:yM l=true
 · rw [if_pos hok] at h;refine ⟨hok,?_⟩;rw [Kj _ (KV hok)];have:=mt (zbN (zj l)).2 h;omega
 · exact absurd (if_neg hok) h
def xM (v:Nat):Nat→Nat
 | 0=>0
 | i+1=>2*xM v i+v/2^i%2
theorem zaP (v i:Nat):xM v i<2^i:=by
 induction i with
 | zero=>simp [xM]
 | succ i ih=>simp only [xM,Nat.pow_succ]; have:v/2^i%2<2:=Nat.mod_lt _ (by omega); omega
theorem zeK (v K i:Nat) (h:i<K):xM v i*2^(K-i) ||| (v/2^i%2)*2^(K-1-i)=xM v (i+1)*2^(K-(i+1)):=by
 have e:2^(K-i)=2*2^(K-1-i):=by rw [show K-i=(K-1-i)+1 by omega,Nat.pow_succ,Nat.mul_comm]
 have h1:v/2^i%2<2:=Nat.mod_lt _ (by omega);have h2:(v/2^i%2)*2^(K-1-i)<2^(K-i):=by
  rw [e]; exact Nat.mul_lt_mul_of_pos_right h1 (Nat.two_pow_pos _)
 rw [nat_join (K-i) _ _ (Nat.mul_mod_left _ _) h2,show K-(i+1)=K-1-i by omega,e];simp only [xM];rw [Nat.add_mul,← Nat.mul_assoc,Nat.mul_comm (xM v i) 2]
theorem zcF (v K i:Nat) (h:i≤K) (hK:K≤32):xM v i*2^(K-i)<4294967296:=by
 have h1:xM v i*2^(K-i)<2^i*2^(K-i):=Nat.mul_lt_mul_of_pos_right (zaP v i) (Nat.two_pow_pos _);rw [← Nat.pow_add,show i+(K-i)=K by omega] at h1;exact Nat.lt_of_lt_of_le h1 (Nat.pow_le_pow_right (by omega) hK)
theorem zia (n:List Nat) {m:Nat} (h:n.length≤m):yF n≤m*32768:=by
 have:yF n≤n.length*32768:=by
  induction n with
  | nil=>simp [yF]
  | cons x n ih =>
    have:=zkg x;have h2:=ih (by simp at h; omega);simp only [yF,List.map_cons,List.sum_cons,List.length_cons] at *;omega
 exact Nat.le_trans this (Nat.mul_le_mul_right _ h)
def vI (n:List Nat) (k i:Nat):List Nat:=(List.range n.length).map fun j=>if (n.getD j 0<k)∨(n.getD j 0=k∧j<i) then zS n j else 0
theorem Zo (n:List Nat) (k i:Nat):(vI n k i).length=n.length:=by simp [vI]
theorem zhM (n:List Nat) (k i:Nat) (h:n.getD i 0=k):(vI n k i).set i (zS n i)=vI n k (i+1) :=
 Jr (fun _=>by rw [if_pos (.inr ⟨h,by omega⟩)]) (fun j _ hj=>by
  by_cases h1:n.getD j 0<k∨(n.getD j 0=k∧j<i)
  · rw [if_pos h1,if_pos (h1.imp id fun ⟨a,b⟩=>⟨a,by omega⟩)]
  · rw [if_neg h1,if_neg (fun h2=>h1 (h2.imp id fun ⟨a,b⟩=>⟨a,by omega⟩))])
theorem ze6 (n:List Nat) (k i:Nat) (h:n.getD i 0≠k):vI n k (i+1)=vI n k i:=by
 unfold vI;apply List.map_congr_left;intro j _;by_cases h1:n.getD j 0<k∨(n.getD j 0=k∧j<i)
 · rw [if_pos h1,if_pos (h1.imp id fun ⟨a,b⟩=>⟨a,by omega⟩)]
 · rw [if_neg h1,if_neg (fun h2=>h1 (h2.imp id fun ⟨a,b⟩=>⟨a,by
    have:j≠i:=fun e=>h (by rw [← e]; exact a);omega⟩))]
theorem zf1 (n:List Nat) (k:Nat):vI n k n.length=vI n (k+1) 0:=by
 unfold vI;apply List.map_congr_left;intro j hj;rw [List.mem_range] at hj;by_cases h1:n.getD j 0<k+1
 · rw [if_pos (by omega),if_pos (by omega)]
 · rw [if_neg (by omega),if_neg (by omega)]
theorem zj9 (n:List Nat):vI n 1 0=List.replicate n.length 0:=by
 apply List.ext_getElem?;intro j;by_cases hj:j<n.length
 · have:(vI n 1 0)[j]? =some (if (n.getD j 0<1)∨(n.getD j 0=1∧j<0) then zS n j else 0):=(by simp [vI,hj]);rw [this,List.getElem?_replicate,if_pos hj];by_cases h1:n.getD j 0<1
   · rw [if_pos (.inl h1)]; unfold zS; rw [if_pos (by omega)]
   · rw [if_neg (by omega)]
 · rw [List.getElem?_eq_none (by rw [Zo]; omega),List.getElem?_eq_none (by simp; omega)]
theorem ziw (n:List Nat) (h : ∀ x∈n,x≤15):vI n 16 0=jo n:=by
 unfold vI jo;apply List.map_congr_left;intro j hj;rw [List.mem_range] at hj;have h1:n.getD j 0≤15:=by
  rw [List.getD,List.getElem?_eq_getElem hj];exact h _ (List.getElem_mem hj)
 rw [if_pos (.inl (by omega))]
def idx (n:List Nat) (k i:Nat):List Nat:=(List.range i).filter fun j=>n.getD j 0==k
def zU (n:List Nat):Nat→List Nat
 | 0=>[]
 | k+1=>if k=0 then [] else zU n k++idx n k n.length
theorem Qw (n:List Nat) (k i:Nat):idx n k (i+1)=idx n k i++if n.getD i 0=k then [i] else []:=by
 unfold idx;rw [List.range_succ,List.filter_append];by_cases h:n.getD i 0=k
 · rw [if_pos h]; simp [List.filter_cons]; simpa [List.getD] using h
 · rw [if_neg h]; simp [List.filter_cons]; simpa [List.getD] using h
theorem kh (n:List Nat) (k:Nat) (h:1≤k):zU n (k+1)=zU n k++idx n k n.length:=by
 simp [zU,show ¬ k=0 by omega]
theorem zao (n:List Nat):zU n 1=[]:=by simp [zU]
theorem YK (n:List Nat) (k i:Nat) (hi:i≤n.length):(idx n k i).length=(n.take i).count k:=by
 induction i with
 | zero=>simp [idx]
 | succ i ih =>
   rw [Qw,List.length_append,ih (by omega),take_snoc' n i (by omega),List.count_append];have e:n.getD i 0=n[i]:=(by simp [List.getD,show i<n.length by omega]);rw [e];by_cases h:n[i]=k
   · rw [if_pos h,h]; simp
   · rw [if_neg h]; simp [h]
theorem jQ (n:List Nat) (k:Nat) (h:1≤k):(idx n k n.length).length=cnt n k:=by
 rw [YK n k _ (Nat.le_refl _),List.take_length,cnt,if_neg (by omega)]
theorem Jv (n:List Nat) (k i:Nat):(idx n k i).length≤i:=by
 unfold idx; exact Nat.le_trans (List.length_filter_le _ _) (by simp)
theorem kG (n:List Nat) (k:Nat):(zU n k).length≤k*n.length:=by
 induction k with
 | zero=>simp [zU]
 | succ k ih =>
   simp only [zU];split
   · simp
   · rw [List.length_append,Nat.succ_mul];have:=Jv n k n.length;omega
theorem JG (n:List Nat) (k:Nat) (h:1≤k):(zU n (k+1)).length=(zU n k).length+cnt n k:=by
 rw [kh n k h,List.length_append,jQ n k h]
theorem YT (n:List Nat) (k m:Nat) (h:1≤k) : ∃ r,zU n (k+m)=zU n k++r:=by
 induction m with
 | zero=>exact ⟨[],by simp⟩
 | succ m ih =>
   obtain ⟨r,hr⟩:=ih;exact ⟨r++idx n (k+m) n.length,by rw [show k+(m+1)=(k+m)+1 by omega,kh n (k+m) (by omega),hr,List.append_assoc]⟩
theorem zgU (n:List Nat) (k j:Nat) (h1:1≤k) (h2:k≤15) (hj:j<cnt n k):(zU n 16)[(zU n k).length+j]? =some ((idx n k n.length).getD j 0):=by
 obtain ⟨r,hr⟩:=YT n (k+1) (15-k) (by omega);rw [show k+1+(15-k)=16 by omega,kh n k h1] at hr;have hl:=jQ n k h1;rw [hr,List.getElem?_append_left (by rw [List.length_append,hl]; omega),List.getElem?_append_right (by omega),show (zU n k).length+j-(zU n k).length=j by omega];rw [List.getD,List.getElem?_eq_getElem (by omega)];rfl
def qy (n:List Nat) (k c:Nat):Option Nat:=if fst n k≤c∧c<fst n k+cnt n k then some ((idx n k n.length).getD (c-fst n k) 0) else none
end Go.Proofs.YtfkenhihcmmgkaaGreatDoor
namespace Go.Proofs.YtfkenhihcmmgkaaGreatDoor
open Go.RowKit
structure IntsIn (w:World) (a:Option Addr) (len:Nat) (l:List Int):Prop where
 len:l.length=len
 cell : ∀ i (h:i<l.length),∃ b off,a=some ⟨b,off,none⟩∧w.cell? ⟨b,off+i,none⟩=some (.int .i64 l[i]) ∧ -9223372036854775808≤l[i]∧l[i]≤9223372036854775807
theorem IntsIn.upd {w w':World} {a:Option Addr} {len:Nat} {l:List Int} {fp:List Nat} (h:IntsIn w a len l) (hU:Upd fp w w') (hf : ∀ b off,a=some ⟨b,off,none⟩→b∉fp):IntsIn w' a len l :=
 ⟨h.len,fun i hi=>by
  obtain ⟨b,off,e,c,r⟩:=h.cell i hi;have hb:b<w.heap.size:=World.block_lt_of_cell? w _ c;exact ⟨b,off,e,(hU.at hb (hf b off e) _).trans c,r⟩⟩
theorem IntsIn.pure {w w':World} {a:Option Addr} {len:Nat} {l:List Int} (h:IntsIn w a len l) (hU:Upd [] w w'):IntsIn w' a len l:=h.upd hU (by simp)
def zl (l:List Nat):List Value:=l.map fun x:Nat => .int .i64 (x:Int)
theorem zq (l:List Nat):(zl l).length=l.length:=by simp [zl]
theorem xL (l:List Nat) (i x:Nat):zl (l.set i x)=(zl l).set i (.int .i64 (x:Int)):=by simp [zl,List.map_set]
theorem zB (l:List Nat) (i x:Nat) (h:l[i]? =some x):(zl l)[i]? =some (.int .i64 (x:Int)):=by simp [zl,h]
theorem xi (l:List Nat) : ∀ v∈zl l,v.oneCell'=true:=by
 intro v hv;simp only [zl,List.mem_map] at hv;obtain ⟨x,_,rfl⟩:=hv;rfl
theorem IntsIn.of_blk {w:World} {b:Nat} {l:List Int} {t:TypeId} (h:Blk w b (l.map (Value.int .i64)) t) (hb : ∀ x∈l,-9223372036854775808≤x∧x≤9223372036854775807):IntsIn w (some ⟨b,0,none⟩) l.length l :=
 ⟨rfl,fun i hi=>⟨b,0,rfl,by rw [Nat.zero_add]; exact h.cell i (by simp [hi]),hb _ (List.getElem_mem hi)⟩⟩
theorem qh:(Tryz.prog.info? 3).map (fun i=>(i.zero,i.size,i.bytes))=some (some (.int .i64 0),1,8):=by kernel_rfl
theorem zfv (y:Nat) (w:World) (hy:y<4294967296) :
 Calls Tryz.prog 337 #[.int .u64 1,.int .u64 (y:Nat)] w fun e w'=>e = .returned (.tuple #[.int .u64 0,.int .u64 (y:Nat)])∧w=w':=by
 have hA:bits .and .u64 1 4294967295=1:=by rfl
 have hB:bits .and .u64 (y:Int) 4294967295=(y:Int):=by
  have h1:(BitVec.ofInt 64 (y:Int)).toNat=y:=by
   rw [BitVec.ofInt_natCast,BitVec.toNat_ofNat]; exact Nat.mod_eq_of_lt (by omega)
  have h2:(BitVec.ofInt 64 4294967295).toNat=2^32-1:=by rfl
  show IntKind.u64.wrap ((BitVec.ofInt 64 (y:Int) &&& BitVec.ofInt 64 4294967295).toNat:Int)=_;rw [BitVec.toNat_and,h1,h2,Nat.and_two_pow_sub_one_eq_mod,IntKind.wrap_u64];omega
 have hd:(y:Int)/4294967296=0:=by omega
 have hw:IntKind.u64.wrap (y:Int)=(y:Int):=by rw [IntKind.wrap_u64]; omega
 have hz:IntKind.u64.wrap 0=0:=by rfl
 have hm:(1:Int)*(y:Int)=(y:Int):=by omega
 have hB0:bits .and .u64 0 4294967295=0:=by rfl
 go_enter Tryz.func337,Tryz.ntmps337;go_wp2;go_returns;exact ⟨rfl,rfl⟩
theorem mul_one (y:Nat) (w:World) (hy:y<4294967296) :
 Calls Tryz.prog 309 #[.int .u64 1,.int .u64 (y:Nat)] w fun e w'=>e = .returned (.tuple #[.int .u64 0,.int .u64 (y:Nat)])∧w=w':=by
 go_enter Tryz.func309,Tryz.ntmps309;go_wp2_with fail
 refine (zfv y w hy).mono ?_;rintro e w' ⟨rfl,rfl⟩;go_wp2;go_returns;exact ⟨rfl,rfl⟩
theorem Xm {α:Type} (n k m:Nat) (v z:α) (h:k≤m):splice (List.replicate n v++List.replicate m z) n (List.replicate k v)=List.replicate (n+k) v++List.replicate (m-k) z:=by
 unfold splice;rw [List.length_replicate,List.take_left' (by simp),← List.append_assoc,List.replicate_append_replicate,List.drop_append,List.length_replicate];simp
theorem Row.blk {w:World} {e:TypeId} {g n:Nat} {xs:List Value} (h:Row w e 1 (.slice (some ⟨g,0,none⟩) n n) n xs):Blk w g xs e:=by
 rcases h.2 with h2 | ⟨g',cap,cur,hv,hb,hg,hle,hmx,hcs,hr⟩
 · cases h2.1
 · cases hv;unfold Blk;rw [hg,← hr,← hcs,List.take_of_length_le (by simp),Array.toArray_toList]
theorem Blk.row {w:World} {e:TypeId} {g:Nat} {xs:List Value} (h:Blk w g xs e) (n:Nat) (hn:xs.length=n) (hm:n≤maxLen):Row w e 1 (.slice (some ⟨g,0,none⟩) n n) n xs :=
 ⟨by omega,.inr ⟨g,n,xs.toArray,rfl,Nat.zero_le _,h,Nat.le_refl _,hm,by simp [hn],by rw [Nat.mul_one,List.take_of_length_le (by simp [hn])]⟩⟩
theorem Ye (g0 off c0 n:Nat) (v:Int) (w:World) (hc:w.cell? ⟨g0,off,none⟩=some (.int .i64 v)) (hn1:1≤n) (hn:n≤1000) :
 Calls Tryz.prog 271 #[.slice (some ⟨g0,off,none⟩) 1 c0,.int .i64 (n:Nat)] w fun e w'=>e = .returned (.slice (some ⟨w.heap.size,0,none⟩) n n) ∧
  Row w' 3 1 (.slice (some ⟨w.heap.size,0,none⟩) n n) n (List.replicate n (.int .i64 v))∧Upd [] w w'∧w.heap.size<w'.heap.size:=by
 obtain ⟨i0,hi0,hz0,hz1,hz2⟩:=info_parts qh;have hsz:(Tryz.prog.info? 3).map (·.size)=some 1:=by rw [hi0]; simp [hz1]
 have hM:=Hi (mul_one n w (by omega));have hg0:g0<w.heap.size:=World.block_lt_of_cell? w _ hc;have hnn:decide ((n:Int)<0)=false:=decide_eq_false (by omega);have hnm:decide (9223372036854775807<(n:Int))=false:=decide_eq_false (by omega);have hw1:IntKind.u64.wrap (n:Int)=(n:Int):=by rw [IntKind.wrap_u64]; omega
 have hw2:IntKind.i64.wrap (n:Int)=(n:Int):=IntWalk.i64_in _ (by omega);go_enter Tryz.func271,Tryz.ntmps271;go_wp2_with fail
 refine hM.out.mono ?_;rintro e w1 ⟨rfl,rfl⟩;go_upto_region 7 with (refine kz _ rfl _ _ 57 rfl 3 i0 _ Tryz.underlying57 hi0 hz0 hz1 rfl .i64 .i64 _ _ n rfl rfl rfl rfl (by rw [hz2]; omega) (by unfold maxLen; omega) ?_; intro w2 hR2 hU2 hs2)
 have hB2:=hR2.blk;have hb2:=hU2.below;obtain ⟨m,rfl⟩ : ∃ m,n=m+1:=⟨n-1,by omega⟩;have hmin:[Value.int .i64 v].length=Nat.min 1 (m+1):=by simp
 have hc2:w2.cell? ⟨g0,off,none⟩=some (.int .i64 v):=(hU2.at hg0 (by simp) off).trans hc;have hsrc:0<[Value.int .i64 v].length→some (⟨w.heap.size,0,none⟩:Addr)=some ⟨w.heap.size,0,none⟩ ∧ ∃ ad,some (⟨g0,off,none⟩:Addr)=some ad ∧ ∀ j u,[Value.int .i64 v][j]? =some u→w2.cell? (ad.add j)=some u:=fun _=>⟨rfl,_,rfl,fun j u hj=>by
  cases j with
  | zero=>cases hj; exact hc2
  | succ j=>cases hj⟩
 obtain ⟨Z,hZ⟩ : ∃ Z,Z=List.replicate (m+1) (Value.int .i64 0):=⟨_,rfl⟩;rw [← hZ] at hB2;have hZ':=Hi hZ;have hZl:Z.length=m+1:=by rw [hZ]; simp
 clear hZ hR2 hU2;go_wp2_with ((with_reducible show wpList _ _ _ _ _ _); refine wpList_copy_splice rfl (.tmp 31) (.tmp 32) 57 57 rfl 3 Tryz.underlying57 hsz _ _ (m+1) (m+1) 1 c0 rfl rfl w.heap.size 0 Z 3 hB2 [.int .i64 v] hmin hsrc (by simp; omega) (by simp [Value.oneCell']) w.heap.size w hb2 (Nat.le_refl _) ?_; intro w3 hg3 hb3)
 have hB3:Blk w3 w.heap.size (List.replicate 1 (.int .i64 v)++List.replicate m (.int .i64 0)) 3:=by
  have h:=hg3.out;rw [hZ'.out,show List.replicate (m+1) (Value.int .i64 0)=List.replicate 0 (.int .i64 v)++List.replicate (m+1) (.int .i64 0) by simp] at h;have e:=Xm 0 1 (m+1) (Value.int .i64 v) (Value.int .i64 0) (by omega);rw [show [Value.int .i64 v]=List.replicate 1 (Value.int .i64 v) by rfl,e] at h;exact h
 clear hg3 hM hsrc hc2 hmin hb2 hB2;go_loopg [8] m (fun g s8 wr => ∃ k,k≤m∧g=m-k∧s8 = .int .i64 ((k:Int)+1)∧Blk wr w.heap.size (List.replicate (k+1) (.int .i64 v)++List.replicate (m-k) (.int .i64 0)) 3∧Below w.heap.size w wr)
 case atStart=>exact ⟨0,by omega,rfl,rfl,hB3,hb3⟩
 case round =>
  obtain ⟨k,hkm,rfl,rfl,hB,hb⟩:=hrel;by_cases hr:m=k
  · have hcz : ¬ ((k:Int)+1<(m:Int)+1):=(by omega);subst hr;go_wp2;go_returns;have hlt:=hB.lt;exact ⟨rfl,(by simpa using hB:Blk wr w.heap.size (List.replicate (m+1) (.int .i64 v)) 3).row _ (by simp) (by unfold maxLen; omega),.of_below hb,hlt⟩
  · have hcz:(k:Int)+1<(m:Int)+1:=(by omega);have hk0:0≤(k:Int)+1:=(by omega);obtain ⟨cur,hcur⟩ : ∃ cur,cur=List.replicate (k+1) (Value.int .i64 v)++List.replicate (m-k) (Value.int .i64 0):=⟨_,rfl⟩;obtain ⟨cs,hcs⟩ : ∃ cs,cs=List.replicate (min (k+1) (m-k)) (Value.int .i64 v):=⟨_,rfl⟩;have hl1:cs.length=Nat.min (k+1) (m-k):=(by rw [hcs]; simp);have hfit:k+1+cs.length≤cur.length:=(by rw [hcs,hcur]; simp; omega);have hone : ∀ u∈cs,u.oneCell'=true:=(by intro u hu; rw [hcs] at hu; rw [(List.mem_replicate.1 hu).2]; rfl);have hsrc : ∀ j u,cs[j]? =some u→wr.drew.cell? ((⟨w.heap.size,0,none⟩:Addr).add j)=some u:=fun j u hj=>by
     rw [hcs] at hj;have hj':j<min (k+1) (m-k):=(by have:=(List.getElem?_eq_some_iff.1 hj).1; simpa using this);have hu:u = .int .i64 v:=(by obtain ⟨h1,h2⟩:=List.getElem?_eq_some_iff.1 hj; rw [← h2]; simp);have h:=hB.cell j (v := .int .i64 v) (by rw [List.getElem?_append_left (by simp; omega),List.getElem?_replicate]; simp; omega);rw [hu];cases j with
     | zero=>exact h
     | succ j=>simpa [Addr.add] using h
    rw [← hcur] at hB;have hBd:wr.drew.heap[w.heap.size]? =some (Obj.cells cur.toArray 3 (0,0)):=hB;have hbd:=hb.drew;have HC:=Hi hcur;have HS:=Hi hcs;have HL:=Hi hl1;have HSRC:=Hi hsrc;have HONE:=Hi hone;have HB:=Hi hBd;clear hcur hcs hl1 hsrc hone hB hBd;have hl2:cs.length≤1000:=(by have:=HL.out; simp only [Nat.min_def] at this; split at this<;>omega);go_wp2
    go_region_law ((refine step_copy_splice (by rfl) (.tmp 41) (.tmp 44) 57 57 (by rfl) 3 Tryz.underlying57 hsz (some ⟨w.heap.size,k+1,none⟩) (some ⟨w.heap.size,0,none⟩) (m-k) (m-k) (k+1) (m+1) (by simp [Act.put,Act.eval]) (by simp [Act.put,Act.eval]) w.heap.size (k+1) cur 3 HB.out cs HL.out (fun _=>⟨rfl,_,rfl,HSRC.out⟩) hfit HONE.out w.heap.size w hbd (Nat.le_refl _) ?_; intro w4 hg4 hb4))
    (all_goals go_wp2);all_goals (
     have hj:=HL.out;have hj1:cs.length=min (k+1) (m-k):=hj;have hcs:=HS.out;rw [← hj1] at hcs;have h4:=hg4.out;rw [HC.out,hcs,Xm (k+1) cs.length (m-k) (Value.int .i64 v) (Value.int .i64 0) (by omega),show k+1+cs.length=k+cs.length+1 by omega,show m-k-cs.length=m-(k+cs.length) by omega] at h4)
    (all_goals go_roundg (m-(k+cs.length)));all_goals first
     | omega
     | (refine ⟨k+cs.length,by omega,rfl,by rw [show IntKind.i64.wrap ((k:Int)+1+(cs.length:Int))=(k:Int)+1+(cs.length:Int) from IntWalk.i64_in _ (by omega)]; congr 1; omega,h4,hb4⟩)
def qk:List (Nat×Nat):=[(144,8),(112,9),(24,7),(8,8)]
def yG (i:Nat):List Nat:=(qk.take i).flatMap fun r=>List.replicate r.1 r.2
def zgI:List Value:=[.int .i64 144,.int .i64 8,.int .i64 112,.int .i64 9,.int .i64 24,.int .i64 7,.int .i64 8,.int .i64 8]
theorem zg0 (i:Nat):(yG i).length≤288:=by
 unfold yG qk;rcases i with _ | _ | _ | _ | i<;>simp only [List.take_zero,List.take_succ_cons,List.take_nil,List.flatMap_cons,List.flatMap_nil,List.length_append,List.length_replicate,List.length_nil,Nat.zero_add]<;>omega
theorem zfH (i:Nat) (h:i<4):yG (i+1)=yG i++List.replicate (qk.getD i (0,0)).1 (qk.getD i (0,0)).2:=by
 have ht:qk.take (i+1)=qk.take i++[qk.getD i (0,0)]:=by
  rw [List.take_add_one,List.getD_eq_getElem?_getD,List.getElem?_eq_getElem (show i<qk.length from h)];rfl
 unfold yG;rw [ht,List.flatMap_append];simp only [List.flatMap_cons,List.flatMap_nil,List.append_nil]
def zjY (w wr:World) (b:Nat) (v:Value) (i:Nat):Prop :=
 Row wr 3 1 v (yG i).length (zl (yG i))∧Upd [] w wr∧Blk wr b zgI 321∧v.ownBlock≠some b ∧ ∀ k,v.ownBlock=some k→w.heap.size≤k
theorem QE (w:World):Calls Tryz.prog 231 #[] w fun e w' => ∃ g1 c1 g2,e = .returned (.tuple #[.slice (some ⟨g1,0,none⟩) 288 c1,.slice (some ⟨g2,0,none⟩) 32 32]) ∧
 Row w' 3 1 (.slice (some ⟨g1,0,none⟩) 288 c1) 288 (zl (yG 4))∧Row w' 3 1 (.slice (some ⟨g2,0,none⟩) 32 32) 32 (zl (List.replicate 32 5))∧Upd [] w w'∧w.heap.size≤g1∧w.heap.size≤g2:=by
 obtain ⟨i0,hi0,hz0,hz1,hz2⟩:=info_parts qh;go_enter Tryz.func231,Tryz.ntmps231;go_wp2;go_loopg [0,10] 4 (fun g s0 s10 wr => ∃ i,i≤4∧g=4-i∧s10 = .int .i64 (i:Nat)∧zjY w wr w.heap.size s0 i)
 case atStart=>exact ⟨0,by omega,rfl,rfl,Row.nil _ _ _,(Upd.refl _ _).alloc _,Blk.new _ _ _,by simp [Value.ownBlock],by simp [Value.ownBlock]⟩
 case round =>
  obtain ⟨i,hi,rfl,rfl,hRow,hU,hB,hne,hnew⟩:=hrel;by_cases hc:i<4
  · have hcz:(i:Int)<4:=(by omega);obtain ⟨r,hr⟩ : ∃ r,r=qk.getD i (0,0):=⟨_,rfl⟩;have hst:=zfH i hc;rw [← hr] at hst;have d0:wr.cell? ⟨w.heap.size,i*2,none⟩=some (.int .i64 (r.1:Nat)):=hB.cell (i*2) (by rw [hr]; rcases i with _ | _ | _ | _ | i<;>first | rfl | omega);have d1:wr.cell? ⟨w.heap.size,i*2+1,none⟩=some (.int .i64 (r.2:Nat)):=hB.cell (i*2+1) (by rw [hr]; rcases i with _ | _ | _ | _ | i<;>first | rfl | omega);have hr1:1≤r.1∧r.1≤144∧r.2≤15:=(by rw [hr]; rcases i with _ | _ | _ | _ | i<;>first | decide | omega);have hlen:=zg0 i;obtain ⟨n,x⟩:=r;simp only at d0 d1 hr1 hst;generalize yG i=L at *;clear hr;(go_wp2_with fail);have hU2:Upd [] wr ((wr.alloc (Obj.cells #[.int .i64 (n:Nat),.int .i64 (x:Nat)] 321)).alloc (Obj.cells #[.int .i64 (x:Nat)] 3)):=((Upd.refl [] wr).alloc _).alloc _;have hcc:((wr.alloc (Obj.cells #[.int .i64 (n:Nat),.int .i64 (x:Nat)] 321)).alloc (Obj.cells #[.int .i64 (x:Nat)] 3)).cell? ⟨wr.heap.size+1,0,none⟩=some (.int .i64 (x:Nat)):=by
     have h:=(Blk.new (wr.alloc (Obj.cells #[.int .i64 (n:Nat),.int .i64 (x:Nat)] 321)) [.int .i64 (x:Nat)] 3).cell 0 rfl;rw [World.size_alloc] at h;exact h
    generalize ((wr.alloc (Obj.cells #[.int .i64 (n:Nat),.int .i64 (x:Nat)] 321)).alloc (Obj.cells #[.int .i64 (x:Nat)] 3))=w2 at *;refine (Ye (wr.heap.size+1) 0 1 n x w2 hcc hr1.1 (by omega)).mono ?_;rintro e w5 ⟨rfl,hR5,hU5,hs5⟩;have hRow5:=(hRow.upd hU2 (by simp)).upd hU5 (by simp);have hB5:=(hB.upd hU2 (by simp)).upd hU5 (by simp);have hUw5:=(hU.then hU2).then hU5;have hnl:(List.replicate n (Value.int .i64 (x:Nat))).length=n*1:=(by simp);have hnews : ∀ j u,(List.replicate n (Value.int .i64 (x:Nat)))[j]? =some u→w5.cell? ((⟨w2.heap.size,0,none⟩:Addr).add j)=some u:=fun j u hj=>by
     have h:=hR5.cell j hj;cases j with
     | zero=>exact h
     | succ j=>simpa [Addr.add] using h
    have hone : ∀ u∈List.replicate n (Value.int .i64 (x:Nat)),u.oneCell'=true:=(by intro u hu; rw [(List.mem_replicate.1 hu).2]; rfl);clear hRow hB hU hU2 hcc hR5 hs5 d0 d1;obtain ⟨news,hnw⟩ : ∃ l,l=List.replicate n (Value.int .i64 (x:Nat)):=⟨_,rfl⟩;rw [← hnw] at hnl hnews hone;have HNW:=Hi hnw;have HNEWS:=Hi hnews;have HONE:=Hi hone;clear hnw hnews hone;(go_wp2_with (at_builtin; refine zH _ rfl _ _ 57 rfl 3 i0 _ 1 8 Tryz.underlying57 hi0 hz0 hz1 hz2 rfl (by omega) _ L.length _ rfl hRow5 ⟨w2.heap.size,0,none⟩ n n news rfl hnl HNEWS.out HONE.out (by unfold maxLen; omega) (by omega) ?_));intro v9 w9 hR9 hU9 hT9;go_wp2;go_roundg (4-(i+1))
    case measure=>omega
    case rel =>
     refine ⟨i+1,by omega,rfl,rfl,?_,?_,?_,?_,?_⟩
     · rw [hst,List.length_append,List.length_replicate];rw [HNW.out] at hR9;simpa [zl,List.map_append] using hR9
     · exact hUw5.trans hU9 (fun k hk => .inr (hnew k (by simpa using hk)))
     · exact hB5.upd hU9 (by simpa [eq_comm] using hne)
     · exact hT9.ne hB5.lt hne
     · intro k hk;rcases hT9 with h | ⟨g,h1,h2⟩
       · rw [h] at hk; exact hnew k hk
       · rw [h1] at hk; cases hk; exact Nat.le_trans hUw5.size h2
  · have hcz : ¬ (i:Int)<4:=(by omega);have hi4:i=4:=(by omega);subst hi4;have hL4:(yG 4).length=288:=by
     unfold yG qk;simp only [List.take_succ_cons,List.take_nil,List.flatMap_cons,List.flatMap_nil,List.length_append,List.length_replicate,List.length_nil]
    rw [hL4] at hRow;generalize hL:yG 4=L4 at *;have HL:=Hi hL;clear hL;obtain ⟨g1,c1,rfl,hg1,hg2⟩:=hRow.form' (by omega);have hgw:w.heap.size≤g1:=hnew g1 rfl;(go_wp2_with fail);have hU2:Upd [] wr (wr.alloc (Obj.cells #[.int .i64 5] 3)):=(Upd.refl [] wr).alloc _;have hcc:=(Blk.new wr [.int .i64 5] 3).cell 0 rfl;refine (Ye wr.heap.size 0 1 32 5 _ hcc (by omega) (by omega)).mono ?_;rintro e w5 ⟨rfl,hR5,hU5,hs5⟩;have hsz:=hU2.size;generalize wr.alloc (Obj.cells #[.int .i64 5] 3)=w2 at *;have hRow5:=(hRow.upd hU2 (by simp)).upd hU5 (by simp);have hUw5:=(hU.then hU2).then hU5;go_wp2;go_returns;exact ⟨g1,c1,w2.heap.size,rfl,by rw [HL.out]; exact hRow5,hR5,hUw5,hgw,Nat.le_trans hU.size hsz⟩
def OwnX (w0 w:World) (e:TypeId) (v:Value) (xs:List Value):Prop:=Row w e 1 v xs.length xs ∧ ∀ k,v.ownBlock=some k→w0.heap.size≤k
theorem OwnX.nil (w0 w:World) (e:TypeId):OwnX w0 w e (.slice none 0 0) []:=⟨Row.nil _ _ _,fun k h=>by cases h⟩
theorem OwnX.upd {w0 w w':World} {e:TypeId} {v:Value} {xs:List Value} (h:OwnX w0 w e v xs) (hu:Upd [] w w'):OwnX w0 w' e v xs:=⟨h.1.upd hu (by simp),h.2⟩
theorem OwnX.app {w0 w wm w':World} {e:TypeId} {v v':Value} {xs ys:List Value} (h:OwnX w0 w e v xs) (hu:Upd [] w0 w) (hm:Upd [] w wm) (hR:Row w' e 1 v' (xs.length+ys.length) (xs++ys)) (hU:Upd v.ownBlock.toList wm w') (hT:Later wm v v') :
 OwnX w0 w' e v' (xs++ys)∧Upd [] w0 w':=by
 refine ⟨⟨by rw [List.length_append]; exact hR,fun k hk=>?_⟩,(hu.then hm).trans hU (fun k hk => .inr (h.2 k (by simpa using hk)))⟩;rcases hT with h1 | ⟨g,h1,h2⟩
 · exact h.2 k (by rw [← h1]; exact hk)
 · rw [h1] at hk; simp at hk h2; have:=(hu.then hm).size; omega
theorem OwnX.form {w0 w:World} {e:TypeId} {v:Value} {xs:List Value} (h:OwnX w0 w e v xs) : ∃ a c,v = .slice a xs.length c:=h.1.form
theorem OwnX.base {w0 w1 w:World} {e:TypeId} {v:Value} {xs:List Value} (h:OwnX w1 w e v xs) (hs:w0.heap.size≤w1.heap.size):OwnX w0 w e v xs:=⟨h.1,fun k hk=>Nat.le_trans hs (h.2 k hk)⟩
def ints (l:List Nat):List Int:=l.map fun x:Nat=>(x:Int)
theorem IntsIn.row {w:World} {t:TypeId} {a:Option Addr} {k c:Nat} {l:List Nat} (h:Row w t 1 (.slice a k c) k (zl l)) (hb : ∀ x∈l,x≤9223372036854775807):IntsIn w a k (ints l):=by
 have hl:l.length=k:=by have:=h.len; rw [zq] at this; omega
 refine ⟨by simp [ints,hl],fun i hi=>?_⟩;have hi2:i<l.length:=by simpa [ints] using hi
 obtain ⟨g,cc,e,_,_⟩:=h.form' (by omega);cases e;have hx:=hb _ (List.getElem_mem hi2);refine ⟨g,0,rfl,?_,by simp [ints]<;>omega,by simp [ints]<;>omega⟩;rw [Nat.zero_add,h.cell i (u := .int .i64 (l[i]:Nat)) (by simp [zl,hi2])];simp [ints]
theorem OwnX.ints {w0 w:World} {t:TypeId} {v:Value} {l:List Nat} (h:OwnX w0 w t v (zl l)) (hb : ∀ x∈l,x≤9223372036854775807) : ∃ a c,v = .slice a l.length c∧IntsIn w a l.length (ints l):=by
 obtain ⟨a,c,rfl⟩:=h.form;have h1:=h.1;rw [zq] at h1 ⊢;exact ⟨a,c,rfl,IntsIn.row h1 hb⟩
theorem IntsIn.blk {w:World} {b n:Nat} {t:TypeId} {l:List Nat} (h:Blk w b (zl l) t) (hn:l.length=n) (hb : ∀ x∈l,x≤9223372036854775807):IntsIn w (some ⟨b,0,none⟩) n (ints l):=by
 refine ⟨by simp [ints,hn],fun i hi=>?_⟩;have hi2:i<l.length:=by simpa [ints] using hi
 have hx:=hb _ (List.getElem_mem hi2);refine ⟨b,0,rfl,?_,by simp [ints]<;>omega,by simp [ints]<;>omega⟩;rw [Nat.zero_add,h.cell i (v := .int .i64 (l[i]:Nat)) (by simp [zl,hi2])];simp [ints]
end Go.Proofs.YtfkenhihcmmgkaaGreatDoor
