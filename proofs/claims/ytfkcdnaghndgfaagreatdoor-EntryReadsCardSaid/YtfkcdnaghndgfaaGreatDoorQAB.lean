/- Plain mathematics of codes of unlike lengths: how many symbols have each length, their sum, the first codes, the codes. -/
import Derived.Test.YtfkcdnaghndgfaaGreatDoorQAA
import Derived.Test.YtfkcdnaghndgfaaGreatDoorRows
import Derived.WalkKit
import Derived.Handy
import Derived.Lib.MinMax
import Derived.IntWalk
import Derived.BigQuiet
import Derived.StillTailTactics
import Derived.Deep.QuietTactic
import Derived.Deep.RegionHeld3
import Derived.Deep.RegionLaw
import Derived.Deep.DeepCutAuto
import Derived.Deep.DeepFit
import Derived.Deep.LoopGhost
import Derived.Deep.Light
import Derived.Deep.CutBlock
import Derived.Laws.BitsAllLaws
import Derived.Outline
import Derived.WalkSpells
import Derived.Lib.Hide
import Derived.Laws.CopyOwn
set_option linter.unusedVariables false
set_option linter.unusedSimpArgs false
set_option linter.unusedSectionVars false
namespace Go.Proofs.YtfkcdnaghndgfaaGreatDoor
def yG (l:List Int):Bool:=decide (l.length≤300)&&l.all fun k=>decide (0≤k)&&decide (k≤15)
def ze (l:List Int):List Nat:=l.map Int.toNat
theorem zy {l:List Int} (h:yG l=true):l.length≤300 ∧ ∀ k∈l,0≤k∧k≤15:=by
 simp only [yG,Bool.and_eq_true,decide_eq_true_eq,List.all_eq_true] at h
 exact h
theorem kD {l:List Int} (h1:l.length≤300) (h2 : ∀ k∈l,0≤k∧k≤15):yG l=true:=by
 simp only [yG,Bool.and_eq_true,decide_eq_true_eq,List.all_eq_true]
 exact ⟨h1,h2⟩
theorem zZ (l:List Int):(ze l).length=l.length:=by simp [ze]
def cnt (n:List Nat) (k:Nat):Nat:=if k=0 then 0 else n.count k
def wt (x:Nat):Nat:=if x=0 then 0 else 2^(15-x)
def yy (n:List Nat):Nat:=(n.map wt).sum
def jf (n:List Nat):Nat→Nat
 | 0=>0
 | k+1=>jf n k+cnt n k*2^(15-k)
def jo (n:List Nat):Nat:=if yy n=0 then 0 else if yy n<32768 then 2 else if yy n=32768 then 1 else 3
def zg (l:List Int):Nat:=if yG l then jo (ze l) else 3
def fst (n:List Nat):Nat→Nat
 | 0=>0
 | k+1=>2*(fst n k+cnt n k)
def zF (n:List Nat) (i:Nat):Nat:=if n.getD i 0=0 then 0 else fst n (n.getD i 0)+(n.take i).count (n.getD i 0)
def jq (n:List Nat):List Nat:=(List.range n.length).map (zF n)
theorem zgZ (n:List Nat) (k:Nat):cnt n k≤n.length:=by
 unfold cnt; split
 · omega
 · exact List.count_le_length
theorem Ws (n:List Nat) (x k:Nat):cnt (n++[x]) k=cnt n k+if x=k∧k≠0 then 1 else 0:=by
 unfold cnt
 by_cases hk:k=0
 · simp [hk]
 · by_cases hx:x=k
   · subst hx; simp [hk]
   · simp [hk,hx]
theorem YQ (n:List Nat) (x:Nat):yy (n++[x])=yy n+wt x:=by simp [yy]
theorem ze6 (n:List Nat) (x k:Nat):jf (n++[x]) k=jf n k+if x<k then wt x else 0:=by
 induction k with
 | zero=>simp [jf]
 | succ k ih =>
   simp only [jf,ih,Ws]
   by_cases h1:x=k
   · subst h1
     simp only [Nat.lt_irrefl,if_false,Nat.lt_succ_self,if_true,wt]
     by_cases h0:x=0
     · simp [h0]
     · simp [h0,Nat.add_mul]; omega
   · by_cases h2:x<k
     · simp [h1,h2,show x<k+1 by omega]; try omega
     · simp [h1,h2,show ¬ x<k+1 by omega]
theorem YO {α:Type} {p:List α→Prop} (h0:p []) (hs : ∀ l x,p l→p (l++[x])) (l:List α):p l:=by
 have : ∀ k (l:List α),l.length=k→p l:=fun k=>by
  induction k with
  | zero=>intro l hl; rw [List.eq_nil_of_length_eq_zero hl]; exact h0
  | succ k ih =>
    intro l hl
    have hne:l≠[]:=by intro h; rw [h] at hl; simp at hl
    rw [← List.dropLast_concat_getLast hne]
    exact hs _ _ (ih _ (by simp [hl]))
 exact this _ l rfl
theorem VL (n:List Nat):(∀ x∈n,x≤15)→jf n 16=yy n:=by
 induction n using YO with
 | h0=>intro _; rfl
 | hs l x ih =>
   intro h
   rw [ze6,YQ,ih (fun y hy=>h y (by simp [hy])),if_pos (by have:=h x (by simp); omega)]
theorem zfl (n:List Nat) (k:Nat) (hk:k≤15):fst n k*2^(15-k)=jf n k:=by
 induction k with
 | zero=>simp [fst,jf]
 | succ k ih =>
   have h:=ih (by omega)
   have e:2^(15-k)=2*2^(15-(k+1)):=by rw [show 15-k=(15-(k+1))+1 by omega,Nat.pow_succ,Nat.mul_comm]
   simp only [fst,jf]
   rw [← h,← Nat.add_mul,e,Nat.mul_comm 2,Nat.mul_assoc]
theorem zfj (n:List Nat) {j k:Nat} (h:j≤k):jf n j≤jf n k:=by
 induction k with
 | zero=>have:j=0:=by omega
         subst this; exact Nat.le_refl _
 | succ k ih =>
   by_cases hj:j=k+1
   · subst hj; exact Nat.le_refl _
   · exact Nat.le_trans (ih (by omega)) (by simp [jf])
theorem Ja (n:List Nat) (hs:jf n 16≤32768) (k:Nat) (hk:k≤15):fst n k+cnt n k≤2^k:=by
 have h1:=zfl n k hk
 have h2:jf n (k+1)≤32768:=Nat.le_trans (zfj n (by omega)) hs
 simp only [jf] at h2
 rw [← h1,← Nat.add_mul] at h2
 have h3:2^k*2^(15-k)=32768:=by rw [← Nat.pow_add,show k+(15-k)=15 by omega]
 rw [← h3] at h2
 exact Nat.le_of_mul_le_mul_right h2 (Nat.two_pow_pos _)
theorem zh0 (n:List Nat) (k:Nat) (hk:k≤16) (hn:n.length≤300):jf n k≤k*9830400:=by
 induction k with
 | zero=>simp [jf]
 | succ k ih =>
   have h1:=ih (by omega)
   have h2:=zgZ n k
   have h3:2^(15-k)≤2^15:=Nat.pow_le_pow_right (by omega) (by omega)
   have h4:cnt n k*2^(15-k)≤300*2^15:=Nat.mul_le_mul (by omega) h3
   simp only [jf]
   omega
theorem zi2 (x:Nat):wt x≤32768:=by
 unfold wt; split
 · omega
 · exact Nat.pow_le_pow_right (by omega) (show 15-x≤15 by omega)
theorem Zl (n:List Nat) (i x:Nat) (h:i<n.length) (hx:n.getD i 0=x):(n.take i).count x+1≤n.count x:=by
 have h1:n=n.take i++n[i]::n.drop (i+1):=by rw [List.getElem_cons_drop,List.take_append_drop]
 have h2:n[i]=x:=by rw [← hx]; simp [List.getD,h]
 conv=>rhs; rw [h1]
 rw [List.count_append,h2,List.count_cons_self]; omega
theorem zcf (n:List Nat):jo n=3↔32768<yy n:=by
 unfold jo
 split
 · omega
 · split
   · omega
   · split<;>omega
def cl0 (n:List Nat):List Nat:=(List.range 16).map fun k=>n.count k
def cl (n:List Nat):List Nat:=(List.range 16).map (cnt n)
theorem qh (n:List Nat):(cl0 n).length=16:=by simp [cl0]
theorem xy (n:List Nat):(cl n).length=16:=by simp [cl]
theorem JS (n:List Nat) (k:Nat) (h:k<16):(cl0 n)[k]? =some (n.count k):=by simp [cl0,h]
theorem Yu (n:List Nat) (k:Nat) (h:k<16):(cl n)[k]? =some (cnt n k):=by simp [cl,h]
theorem zgj (n:List Nat) (x:Nat) (h:x<16):cl0 (n++[x])=(cl0 n).set x (n.count x+1):=by
 apply List.ext_getElem?
 intro k
 by_cases hk:k<16
 · rw [JS _ _ hk,List.getElem?_set,JS _ _ hk]
   by_cases hx:x=k
   · subst hx; simp [qh,h]
   · simp [hx]
 · rw [List.getElem?_eq_none (by rw [qh]; omega),List.getElem?_eq_none (by rw [List.length_set,qh]; omega)]
theorem zil (n:List Nat):(cl0 n).set 0 0=cl n:=by
 apply List.ext_getElem?
 intro k
 by_cases hk:k<16
 · rw [Yu _ _ hk,List.getElem?_set,JS _ _ hk]
   by_cases hx:0=k
   · subst hx; simp [qh,cnt]
   · simp [hx,cnt,show ¬ k=0 by omega]
 · rw [List.getElem?_eq_none (by rw [List.length_set,qh]; omega),List.getElem?_eq_none (by rw [xy]; omega)]
theorem take_snoc' {α:Type} (l:List α) (i:Nat) (h:i<l.length):l.take (i+1)=l.take i++[l[i]]:=List.take_succ_eq_append_getElem h
theorem Zq {l:List Int} {i:Nat} (h:i<l.length) (hi:yG (l.take i)=true) (hl:l.length≤300) (h0:0≤l[i]) (h1:l[i]≤15):yG (l.take (i+1))=true:=by
 have h2:=zy hi
 refine kD (by simp; omega) (fun k hk=>?_)
 rw [take_snoc' l i h] at hk
 rcases List.mem_append.1 hk with hk | hk
 · exact h2.2 k hk
 · simp at hk; subst hk; exact ⟨h0,h1⟩
theorem Yc {l:List Int} {i:Nat} (h:i<l.length) (hb : ¬ (0≤l[i]∧l[i]≤15)):yG l=false:=by
 cases hc:yG l with
 | false=>rfl
 | true=>exact absurd ((zy hc).2 _ (List.getElem_mem h)) hb
theorem ZC {l:List Int} (h:300<l.length):yG l=false:=by
 cases hc:yG l with
 | false=>rfl
 | true=>exact absurd (zy hc).1 (by omega)
def fl (n:List Nat):List Nat:=(List.range 16).map (fst n)
def flp (n:List Nat) (k:Nat):List Nat:=(List.range 16).map fun j=>if j<k then fst n j else 0
def nx (n:List Nat) (i:Nat):List Nat:=(List.range 16).map fun k=>fst n k+cnt (n.take i) k
def JO (n:List Nat) (i:Nat):List Nat:=(List.range n.length).map fun j=>if j<i then zF n j else 0
theorem Jc {f g:Nat→Nat} {m k x:Nat} (hx:k<m→g k=x) (ho : ∀ j,j<m→j≠k→g j=f j):((List.range m).map f).set k x=(List.range m).map g:=by
 apply List.ext_getElem?
 intro j
 by_cases hj:j<m
 · rw [List.getElem?_set]
   by_cases hk:k=j
   · subst hk; simp [hj,hx hj]
   · simp [hk,hj,ho j hj (fun e=>hk e.symm)]
 · rw [List.getElem?_eq_none (by simp; omega),List.getElem?_eq_none (by simp; omega)]
theorem VE (n:List Nat):(fl n).length=16:=by simp [fl]
theorem zbl (n:List Nat) (k:Nat):(flp n k).length=16:=by simp [flp]
theorem Zw (n:List Nat) (i:Nat):(JO n i).length=n.length:=by simp [JO]
theorem zh5 (n:List Nat) (k:Nat):(flp n k).set k (fst n k)=flp n (k+1) :=
 Jc (fun _=>by simp) (fun j _ hj=>by
  by_cases h:j<k
  · simp [h,show j<k+1 by omega]
  · simp [h,show ¬ j<k+1 by omega])
theorem Kf (n:List Nat) (k j:Nat) (h:j<16):(flp n k)[j]? =some (if j<k then fst n j else 0):=by simp [flp,h]
theorem ziz (n:List Nat):flp n 16=fl n:=by
 unfold flp fl
 apply List.map_congr_left
 intro j hj
 rw [List.mem_range] at hj
 rw [if_pos hj]
theorem zif (n:List Nat):flp n 1=List.replicate 16 0:=by
 apply List.ext_getElem?
 intro j
 by_cases hj:j<16
 · rw [Kf _ _ _ hj,List.getElem?_replicate,if_pos hj]
   by_cases h:j<1
   · have:j=0:=by omega
     subst this; simp [fst]
   · simp [h]
 · rw [List.getElem?_eq_none (by rw [zbl]; omega),List.getElem?_eq_none (by simp; omega)]
theorem zjf (n:List Nat):nx n 0=fl n:=by
 unfold nx fl
 apply List.map_congr_left
 intro j _
 simp [cnt]
theorem ziP (n:List Nat) (i k:Nat) (h:k<16):(nx n i)[k]? =some (fst n k+cnt (n.take i) k):=by simp [nx,h]
theorem JP (n:List Nat) (i k:Nat) (h:i<n.length):cnt (n.take (i+1)) k=cnt (n.take i) k+if n[i]=k∧k≠0 then 1 else 0:=by
 rw [take_snoc' n i h,Ws]
theorem ziw (n:List Nat) (i:Nat) (h:i<n.length) (hp:n[i]≠0):(nx n i).set n[i] (fst n n[i]+cnt (n.take i) n[i]+1)=nx n (i+1) :=
 Jc (fun _=>by rw [JP _ _ _ h]; simp [hp]; omega) (fun j _ hj=>by
  simp only [JP _ _ _ h]
  rw [if_neg (fun e=>hj e.1.symm)]; omega)
theorem zhJ (n:List Nat) (i:Nat) (h:i<n.length) (hp:n[i]=0):nx n (i+1)=nx n i:=by
 unfold nx
 apply List.map_congr_left
 intro j _
 rw [JP _ _ _ h,hp]
 by_cases hj:j=0
 · simp [hj]
 · simp [show ¬ 0=j by omega]
theorem XM (n:List Nat) (i:Nat) (h:i<n.length) (hp:n[i]≠0):zF n i=fst n n[i]+cnt (n.take i) n[i]:=by
 have:n.getD i 0=n[i]:=by simp [List.getD,h]
 unfold zF cnt
 rw [this,if_neg hp,if_neg hp]
theorem zap (n:List Nat) (i:Nat) (h:i<n.length) (hp:n[i]=0):zF n i=0:=by
 have:n.getD i 0=n[i]:=by simp [List.getD,h]
 unfold zF
 rw [this,if_pos hp]
theorem zfT (n:List Nat) (i:Nat):(JO n i).set i (zF n i)=JO n (i+1) :=
 Jc (fun _=>by simp) (fun j _ hj=>by
  by_cases h:j<i
  · simp [h,show j<i+1 by omega]
  · simp [h,show ¬ j<i+1 by omega])
theorem ze5 (n:List Nat) (i:Nat) (h:i<n.length) (hp:n[i]=0):JO n (i+1)=JO n i:=by
 unfold JO
 apply List.map_congr_left
 intro j hj
 rw [List.mem_range] at hj
 by_cases h1:j<i
 · simp [h1,show j<i+1 by omega]
 · by_cases h2:j=i
   · subst h2; simp [zap n j h hp]
   · simp [h1,show ¬ j<i+1 by omega]
theorem ziJ (n:List Nat):JO n 0=List.replicate n.length 0:=by
 apply List.ext_getElem?
 intro j
 by_cases hj:j<n.length
 · simp [JO,hj]
 · rw [List.getElem?_eq_none (by rw [Zw]; omega),List.getElem?_eq_none (by simp; omega)]
theorem zfZ (n:List Nat):JO n n.length=jq n:=by
 unfold JO jq
 apply List.map_congr_left
 intro j hj
 rw [List.mem_range] at hj
 rw [if_pos hj]
theorem Zp (n:List Nat) (i k:Nat):cnt (n.take i) k≤cnt n k:=by
 unfold cnt
 split
 · omega
 · exact List.Sublist.count_le _ (List.take_sublist i n)
theorem Jd {l:List Int} (h:yG l=true) : ∀ x∈ze l,x≤15:=fun x hx=>by
 simp only [ze,List.mem_map] at hx
 obtain ⟨y,hy,rfl⟩:=hx
 have:=(zy h).2 y hy; omega
theorem xz {l:List Int} (h:zg l≠3):yG l=true∧jf (ze l) 16≤32768:=by
 unfold zg at h
 by_cases hok:yG l=true
 · rw [if_pos hok] at h
   refine ⟨hok,?_⟩
   rw [VL _ (Jd hok)]
   have:=mt (zcf (ze l)).2 h
   omega
 · exact absurd (if_neg hok) h
def xI (v:Nat):Nat→Nat
 | 0=>0
 | i+1=>2*xI v i+v/2^i%2
theorem WZ (v i:Nat):xI v i<2^i:=by
 induction i with
 | zero=>simp [xI]
 | succ i ih=>simp only [xI,Nat.pow_succ]; have:v/2^i%2<2:=Nat.mod_lt _ (by omega); omega
theorem zd3 (v K i:Nat) (h:i<K):xI v i*2^(K-i) ||| (v/2^i%2)*2^(K-1-i)=xI v (i+1)*2^(K-(i+1)):=by
 have e:2^(K-i)=2*2^(K-1-i):=by rw [show K-i=(K-1-i)+1 by omega,Nat.pow_succ,Nat.mul_comm]
 have h1:v/2^i%2<2:=Nat.mod_lt _ (by omega)
 have h2:(v/2^i%2)*2^(K-1-i)<2^(K-i):=by
  rw [e]; exact Nat.mul_lt_mul_of_pos_right h1 (Nat.two_pow_pos _)
 rw [nat_join (K-i) _ _ (Nat.mul_mod_left _ _) h2,show K-(i+1)=K-1-i by omega,e]
 simp only [xI]
 rw [Nat.add_mul,← Nat.mul_assoc,Nat.mul_comm (xI v i) 2]
theorem zb6 (v K i:Nat) (h:i≤K) (hK:K≤32):xI v i*2^(K-i)<4294967296:=by
 have h1:xI v i*2^(K-i)<2^i*2^(K-i):=Nat.mul_lt_mul_of_pos_right (WZ v i) (Nat.two_pow_pos _)
 rw [← Nat.pow_add,show i+(K-i)=K by omega] at h1
 exact Nat.lt_of_lt_of_le h1 (Nat.pow_le_pow_right (by omega) hK)
theorem zh6 (n:List Nat) {m:Nat} (h:n.length≤m):yy n≤m*32768:=by
 have:yy n≤n.length*32768:=by
  induction n with
  | nil=>simp [yy]
  | cons x n ih =>
    have:=zi2 x
    have h2:=ih (by simp at h; omega)
    simp only [yy,List.map_cons,List.sum_cons,List.length_cons] at *
    omega
 exact Nat.le_trans this (Nat.mul_le_mul_right _ h)
def vE (n:List Nat) (k i:Nat):List Nat:=(List.range n.length).map fun j=>if (n.getD j 0<k)∨(n.getD j 0=k∧j<i) then zF n j else 0
theorem Zi (n:List Nat) (k i:Nat):(vE n k i).length=n.length:=by simp [vE]
theorem zgI (n:List Nat) (k i:Nat) (h:n.getD i 0=k):(vE n k i).set i (zF n i)=vE n k (i+1) :=
 Jc (fun _=>by rw [if_pos (.inr ⟨h,by omega⟩)]) (fun j _ hj=>by
  by_cases h1:n.getD j 0<k∨(n.getD j 0=k∧j<i)
  · rw [if_pos h1,if_pos (h1.imp id fun ⟨a,b⟩=>⟨a,by omega⟩)]
  · rw [if_neg h1,if_neg (fun h2=>h1 (h2.imp id fun ⟨a,b⟩=>⟨a,by omega⟩))])
theorem zeC (n:List Nat) (k i:Nat) (h:n.getD i 0≠k):vE n k (i+1)=vE n k i:=by
 unfold vE
 apply List.map_congr_left
 intro j _
 by_cases h1:n.getD j 0<k∨(n.getD j 0=k∧j<i)
 · rw [if_pos h1,if_pos (h1.imp id fun ⟨a,b⟩=>⟨a,by omega⟩)]
 · rw [if_neg h1,if_neg (fun h2=>h1 (h2.imp id fun ⟨a,b⟩=>⟨a,by
    have:j≠i:=fun e=>h (by rw [← e]; exact a)
    omega⟩))]
theorem zdP (n:List Nat) (k:Nat):vE n k n.length=vE n (k+1) 0:=by
 unfold vE
 apply List.map_congr_left
 intro j hj
 rw [List.mem_range] at hj
 by_cases h1:n.getD j 0<k+1
 · rw [if_pos (by omega),if_pos (by omega)]
 · rw [if_neg (by omega),if_neg (by omega)]
theorem ziA (n:List Nat):vE n 1 0=List.replicate n.length 0:=by
 apply List.ext_getElem?
 intro j
 by_cases hj:j<n.length
 · have:(vE n 1 0)[j]? =some (if (n.getD j 0<1)∨(n.getD j 0=1∧j<0) then zF n j else 0):=by simp [vE,hj]
   rw [this,List.getElem?_replicate,if_pos hj]
   by_cases h1:n.getD j 0<1
   · rw [if_pos (.inl h1)]; unfold zF; rw [if_pos (by omega)]
   · rw [if_neg (by omega)]
 · rw [List.getElem?_eq_none (by rw [Zi]; omega),List.getElem?_eq_none (by simp; omega)]
theorem zhC (n:List Nat) (h : ∀ x∈n,x≤15):vE n 16 0=jq n:=by
 unfold vE jq
 apply List.map_congr_left
 intro j hj
 rw [List.mem_range] at hj
 have h1:n.getD j 0≤15:=by
  rw [List.getD,List.getElem?_eq_getElem hj]
  exact h _ (List.getElem_mem hj)
 rw [if_pos (.inl (by omega))]
def idx (n:List Nat) (k i:Nat):List Nat:=(List.range i).filter fun j=>n.getD j 0==k
def zI (n:List Nat):Nat→List Nat
 | 0=>[]
 | k+1=>if k=0 then [] else zI n k++idx n k n.length
theorem Qc (n:List Nat) (k i:Nat):idx n k (i+1)=idx n k i++if n.getD i 0=k then [i] else []:=by
 unfold idx
 rw [List.range_succ,List.filter_append]
 by_cases h:n.getD i 0=k
 · rw [if_pos h]; simp [List.filter_cons]; simpa [List.getD] using h
 · rw [if_neg h]; simp [List.filter_cons]; simpa [List.getD] using h
theorem kg (n:List Nat) (k:Nat) (h:1≤k):zI n (k+1)=zI n k++idx n k n.length:=by
 simp [zI,show ¬ k=0 by omega]
theorem WU (n:List Nat):zI n 1=[]:=by simp [zI]
theorem Xq (n:List Nat) (k i:Nat) (hi:i≤n.length):(idx n k i).length=(n.take i).count k:=by
 induction i with
 | zero=>simp [idx]
 | succ i ih =>
   rw [Qc,List.length_append,ih (by omega),take_snoc' n i (by omega),List.count_append]
   have e:n.getD i 0=n[i]:=by simp [List.getD,show i<n.length by omega]
   rw [e]
   by_cases h:n[i]=k
   · rw [if_pos h,h]; simp
   · rw [if_neg h]; simp [h]
theorem jG (n:List Nat) (k:Nat) (h:1≤k):(idx n k n.length).length=cnt n k:=by
 rw [Xq n k _ (Nat.le_refl _),List.take_length,cnt,if_neg (by omega)]
theorem Jm (n:List Nat) (k i:Nat):(idx n k i).length≤i:=by
 unfold idx; exact Nat.le_trans (List.length_filter_le _ _) (by simp)
theorem kH (n:List Nat) (k:Nat):(zI n k).length≤k*n.length:=by
 induction k with
 | zero=>simp [zI]
 | succ k ih =>
   simp only [zI]
   split
   · simp
   · rw [List.length_append,Nat.succ_mul]
     have:=Jm n k n.length
     omega
theorem JD (n:List Nat) (k:Nat) (h:1≤k):(zI n (k+1)).length=(zI n k).length+cnt n k:=by
 rw [kg n k h,List.length_append,jG n k h]
theorem YN (n:List Nat) (k m:Nat) (h:1≤k) : ∃ r,zI n (k+m)=zI n k++r:=by
 induction m with
 | zero=>exact ⟨[],by simp⟩
 | succ m ih =>
   obtain ⟨r,hr⟩:=ih
   exact ⟨r++idx n (k+m) n.length,by rw [show k+(m+1)=(k+m)+1 by omega,kg n (k+m) (by omega),hr,List.append_assoc]⟩
theorem zgx (n:List Nat) (k j:Nat) (h1:1≤k) (h2:k≤15) (hj:j<cnt n k):(zI n 16)[(zI n k).length+j]? =some ((idx n k n.length).getD j 0):=by
 obtain ⟨r,hr⟩:=YN n (k+1) (15-k) (by omega)
 rw [show k+1+(15-k)=16 by omega,kg n k h1] at hr
 have hl:=jG n k h1
 rw [hr,List.getElem?_append_left (by rw [List.length_append,hl]; omega),List.getElem?_append_right (by omega),show (zI n k).length+j-(zI n k).length=j by omega]
 rw [List.getD,List.getElem?_eq_getElem (by omega)]
 rfl
def qx (n:List Nat) (k c:Nat):Option Nat:=if fst n k≤c∧c<fst n k+cnt n k then some ((idx n k n.length).getD (c-fst n k) 0) else none
end Go.Proofs.YtfkcdnaghndgfaaGreatDoor
namespace Go.Proofs.YtfkcdnaghndgfaaGreatDoor
open Go.RowKit
structure IntsIn (w:World) (a:Option Addr) (len:Nat) (l:List Int):Prop where
 len:l.length=len
 cell : ∀ i (h:i<l.length),∃ b off,a=some ⟨b,off,none⟩∧w.cell? ⟨b,off+i,none⟩=some (.int .i64 l[i]) ∧ -9223372036854775808≤l[i]∧l[i]≤9223372036854775807
theorem IntsIn.upd {w w':World} {a:Option Addr} {len:Nat} {l:List Int} {fp:List Nat} (h:IntsIn w a len l) (hU:Upd fp w w') (hf : ∀ b off,a=some ⟨b,off,none⟩→b∉fp):IntsIn w' a len l :=
 ⟨h.len,fun i hi=>by
  obtain ⟨b,off,e,c,r⟩:=h.cell i hi
  have hb:b<w.heap.size:=World.block_lt_of_cell? w _ c
  exact ⟨b,off,e,(hU.at hb (hf b off e) _).trans c,r⟩⟩
theorem IntsIn.pure {w w':World} {a:Option Addr} {len:Nat} {l:List Int} (h:IntsIn w a len l) (hU:Upd [] w w'):IntsIn w' a len l:=h.upd hU (by simp)
def zf (l:List Nat):List Value:=l.map fun x:Nat => .int .i64 (x:Int)
theorem zl (l:List Nat):(zf l).length=l.length:=by simp [zf]
theorem xc (l:List Nat) (i x:Nat):zf (l.set i x)=(zf l).set i (.int .i64 (x:Int)):=by simp [zf,List.map_set]
theorem zt (l:List Nat) (i x:Nat) (h:l[i]? =some x):(zf l)[i]? =some (.int .i64 (x:Int)):=by simp [zf,h]
theorem yZ (l:List Nat) : ∀ v∈zf l,v.oneCell'=true:=by
 intro v hv
 simp only [zf,List.mem_map] at hv
 obtain ⟨x,_,rfl⟩:=hv
 rfl
theorem IntsIn.of_blk {w:World} {b:Nat} {l:List Int} {t:TypeId} (h:Blk w b (l.map (Value.int .i64)) t) (hb : ∀ x∈l,-9223372036854775808≤x∧x≤9223372036854775807):IntsIn w (some ⟨b,0,none⟩) l.length l :=
 ⟨rfl,fun i hi=>⟨b,0,rfl,by rw [Nat.zero_add]; exact h.cell i (by simp [hi]),hb _ (List.getElem_mem hi)⟩⟩
theorem qr:(Tryz.prog.info? 3).map (fun i=>(i.zero,i.size,i.bytes))=some (some (.int .i64 0),1,8):=by kernel_rfl
end Go.Proofs.YtfkcdnaghndgfaaGreatDoor
namespace Go.Proofs.YtfkcdnaghndgfaaGreatDoor
open Go.RowKit
theorem zeL (y:Nat) (w:World) (hy:y<4294967296) :
 Calls Tryz.prog 212 #[.int .u64 1,.int .u64 (y:Nat)] w fun e w'=>e = .returned (.tuple #[.int .u64 0,.int .u64 (y:Nat)])∧w=w':=by
 have hA:bits .and .u64 1 4294967295=1:=by rfl
 have hB:bits .and .u64 (y:Int) 4294967295=(y:Int):=by
  have h1:(BitVec.ofInt 64 (y:Int)).toNat=y:=by
   rw [BitVec.ofInt_natCast,BitVec.toNat_ofNat]; exact Nat.mod_eq_of_lt (by omega)
  have h2:(BitVec.ofInt 64 4294967295).toNat=2^32-1:=by rfl
  show IntKind.u64.wrap ((BitVec.ofInt 64 (y:Int) &&& BitVec.ofInt 64 4294967295).toNat:Int)=_
  rw [BitVec.toNat_and,h1,h2,Nat.and_two_pow_sub_one_eq_mod,IntKind.wrap_u64]
  omega
 have hd:(y:Int)/4294967296=0:=by omega
 have hw:IntKind.u64.wrap (y:Int)=(y:Int):=by rw [IntKind.wrap_u64]; omega
 have hz:IntKind.u64.wrap 0=0:=by rfl
 have hm:(1:Int)*(y:Int)=(y:Int):=by omega
 have hB0:bits .and .u64 0 4294967295=0:=by rfl
 go_enter Tryz.func212,Tryz.ntmps212
 go_wp2
 go_returns
 exact ⟨rfl,rfl⟩
theorem mul_one (y:Nat) (w:World) (hy:y<4294967296) :
 Calls Tryz.prog 184 #[.int .u64 1,.int .u64 (y:Nat)] w fun e w'=>e = .returned (.tuple #[.int .u64 0,.int .u64 (y:Nat)])∧w=w':=by
 go_enter Tryz.func184,Tryz.ntmps184
 go_wp2_with fail
 refine (zeL y w hy).mono ?_
 rintro e w' ⟨rfl,rfl⟩
 go_wp2
 go_returns
 exact ⟨rfl,rfl⟩
theorem Yw {α:Type} (n k m:Nat) (v z:α) (h:k≤m):splice (List.replicate n v++List.replicate m z) n (List.replicate k v)=List.replicate (n+k) v++List.replicate (m-k) z:=by
 unfold splice
 rw [List.length_replicate,List.take_left' (by simp),← List.append_assoc,List.replicate_append_replicate,List.drop_append,List.length_replicate]
 simp
theorem Row.blk {w:World} {e:TypeId} {g n:Nat} {xs:List Value} (h:Row w e 1 (.slice (some ⟨g,0,none⟩) n n) n xs):Blk w g xs e:=by
 rcases h.2 with h2 | ⟨g',cap,cur,hv,hb,hg,hle,hmx,hcs,hr⟩
 · cases h2.1
 · cases hv
   unfold Blk
   rw [hg,← hr,← hcs,List.take_of_length_le (by simp),Array.toArray_toList]
theorem Blk.row {w:World} {e:TypeId} {g:Nat} {xs:List Value} (h:Blk w g xs e) (n:Nat) (hn:xs.length=n) (hm:n≤maxLen):Row w e 1 (.slice (some ⟨g,0,none⟩) n n) n xs :=
 ⟨by omega,.inr ⟨g,n,xs.toArray,rfl,Nat.zero_le _,h,Nat.le_refl _,hm,by simp [hn],by rw [Nat.mul_one,List.take_of_length_le (by simp [hn])]⟩⟩
set_option maxRecDepth 100000 in
set_option maxHeartbeats 1600000 in
theorem XN (g0 off c0 n:Nat) (v:Int) (w:World) (hc:w.cell? ⟨g0,off,none⟩=some (.int .i64 v)) (hn1:1≤n) (hn:n≤1000) :
 Calls Tryz.prog 151 #[.slice (some ⟨g0,off,none⟩) 1 c0,.int .i64 (n:Nat)] w fun e w'=>e = .returned (.slice (some ⟨w.heap.size,0,none⟩) n n) ∧
  Row w' 3 1 (.slice (some ⟨w.heap.size,0,none⟩) n n) n (List.replicate n (.int .i64 v))∧Upd [] w w'∧w.heap.size<w'.heap.size:=by
 obtain ⟨i0,hi0,hz0,hz1,hz2⟩:=info_parts qr
 have hsz:(Tryz.prog.info? 3).map (·.size)=some 1:=by rw [hi0]; simp [hz1]
 have hM:=Lib.hid (mul_one n w (by omega))
 have hg0:g0<w.heap.size:=World.block_lt_of_cell? w _ hc
 have hnn:decide ((n:Int)<0)=false:=decide_eq_false (by omega)
 have hnm:decide (9223372036854775807<(n:Int))=false:=decide_eq_false (by omega)
 have hw1:IntKind.u64.wrap (n:Int)=(n:Int):=by rw [IntKind.wrap_u64]; omega
 have hw2:IntKind.i64.wrap (n:Int)=(n:Int):=IntWalk.i64_in _ (by omega)
 go_enter Tryz.func151,Tryz.ntmps151
 go_wp2_with fail
 refine hM.out.mono ?_
 rintro e w1 ⟨rfl,rfl⟩
 go_upto_region 7 with (refine kv _ rfl _ _ 98 rfl 3 i0 _ Tryz.underlying98 hi0 hz0 hz1 rfl .i64 .i64 _ _ n rfl rfl rfl rfl (by rw [hz2]; omega) (by unfold maxLen; omega) ?_; intro w2 hR2 hU2 hs2)
 have hB2:=hR2.blk
 have hb2:=hU2.below
 obtain ⟨m,rfl⟩ : ∃ m,n=m+1:=⟨n-1,by omega⟩
 have hmin:[Value.int .i64 v].length=Nat.min 1 (m+1):=by simp
 have hc2:w2.cell? ⟨g0,off,none⟩=some (.int .i64 v):=(hU2.at hg0 (by simp) off).trans hc
 have hsrc:0<[Value.int .i64 v].length→some (⟨w.heap.size,0,none⟩:Addr)=some ⟨w.heap.size,0,none⟩ ∧ ∃ ad,some (⟨g0,off,none⟩:Addr)=some ad ∧ ∀ j u,[Value.int .i64 v][j]? =some u→w2.cell? (ad.add j)=some u:=fun _=>⟨rfl,_,rfl,fun j u hj=>by
  cases j with
  | zero=>cases hj; exact hc2
  | succ j=>cases hj⟩
 obtain ⟨Z,hZ⟩ : ∃ Z,Z=List.replicate (m+1) (Value.int .i64 0):=⟨_,rfl⟩
 rw [← hZ] at hB2
 have hZ':=Lib.hid hZ
 have hZl:Z.length=m+1:=by rw [hZ]; simp
 clear hZ hR2 hU2
 go_wp2_with ((with_reducible show wpList _ _ _ _ _ _); refine wpList_copy_splice rfl (.tmp 31) (.tmp 32) 98 98 rfl 3 Tryz.underlying98 hsz _ _ (m+1) (m+1) 1 c0 rfl rfl w.heap.size 0 Z 3 hB2 [.int .i64 v] hmin hsrc (by simp; omega) (by simp [Value.oneCell']) w.heap.size w hb2 (Nat.le_refl _) ?_; intro w3 hg3 hb3)
 have hB3:Blk w3 w.heap.size (List.replicate 1 (.int .i64 v)++List.replicate m (.int .i64 0)) 3:=by
  have h:=hg3.out
  rw [hZ'.out,show List.replicate (m+1) (Value.int .i64 0)=List.replicate 0 (.int .i64 v)++List.replicate (m+1) (.int .i64 0) by simp] at h
  have e:=Yw 0 1 (m+1) (Value.int .i64 v) (Value.int .i64 0) (by omega)
  rw [show [Value.int .i64 v]=List.replicate 1 (Value.int .i64 v) by rfl,e] at h
  exact h
 clear hg3 hM hsrc hc2 hmin hb2 hB2
 go_loopg [8] m (fun g s8 wr => ∃ k,k≤m∧g=m-k∧s8 = .int .i64 ((k:Int)+1)∧Blk wr w.heap.size (List.replicate (k+1) (.int .i64 v)++List.replicate (m-k) (.int .i64 0)) 3∧Below w.heap.size w wr)
 case atStart=>exact ⟨0,by omega,rfl,rfl,hB3,hb3⟩
 case round =>
  obtain ⟨k,hkm,rfl,rfl,hB,hb⟩:=hrel
  by_cases hr:m=k
  · have hcz : ¬ ((k:Int)+1<(m:Int)+1):=by omega
    subst hr
    go_wp2
    go_returns
    have hlt:=hB.lt
    exact ⟨rfl,(by simpa using hB:Blk wr w.heap.size (List.replicate (m+1) (.int .i64 v)) 3).row _ (by simp) (by unfold maxLen; omega),.of_below hb,hlt⟩
  · have hcz:(k:Int)+1<(m:Int)+1:=by omega
    have hk0:0≤(k:Int)+1:=by omega
    obtain ⟨cur,hcur⟩ : ∃ cur,cur=List.replicate (k+1) (Value.int .i64 v)++List.replicate (m-k) (Value.int .i64 0):=⟨_,rfl⟩
    obtain ⟨cs,hcs⟩ : ∃ cs,cs=List.replicate (min (k+1) (m-k)) (Value.int .i64 v):=⟨_,rfl⟩
    have hl1:cs.length=Nat.min (k+1) (m-k):=by rw [hcs]; simp
    have hfit:k+1+cs.length≤cur.length:=by rw [hcs,hcur]; simp; omega
    have hone : ∀ u∈cs,u.oneCell'=true:=by intro u hu; rw [hcs] at hu; rw [(List.mem_replicate.1 hu).2]; rfl
    have hsrc : ∀ j u,cs[j]? =some u→wr.drew.cell? ((⟨w.heap.size,0,none⟩:Addr).add j)=some u:=fun j u hj=>by
     rw [hcs] at hj
     have hj':j<min (k+1) (m-k):=by have:=(List.getElem?_eq_some_iff.1 hj).1; simpa using this
     have hu:u = .int .i64 v:=by obtain ⟨h1,h2⟩:=List.getElem?_eq_some_iff.1 hj; rw [← h2]; simp
     have h:=hB.cell j (v := .int .i64 v) (by rw [List.getElem?_append_left (by simp; omega),List.getElem?_replicate]; simp; omega)
     rw [hu]
     cases j with
     | zero=>exact h
     | succ j=>simpa [Addr.add] using h
    rw [← hcur] at hB
    have hBd:wr.drew.heap[w.heap.size]? =some (Obj.cells cur.toArray 3 (0,0)):=hB
    have hbd:=hb.drew
    have HC:=Lib.hid hcur
    have HS:=Lib.hid hcs
    have HL:=Lib.hid hl1
    have HSRC:=Lib.hid hsrc
    have HONE:=Lib.hid hone
    have HB:=Lib.hid hBd
    clear hcur hcs hl1 hsrc hone hB hBd
    have hl2:cs.length≤1000:=by have:=HL.out; simp only [Nat.min_def] at this; split at this<;>omega
    go_wp2
    go_region_law ((refine step_copy_splice (by rfl) (.tmp 41) (.tmp 44) 98 98 (by rfl) 3 Tryz.underlying98 hsz (some ⟨w.heap.size,k+1,none⟩) (some ⟨w.heap.size,0,none⟩) (m-k) (m-k) (k+1) (m+1) (by simp [Act.put,Act.eval]) (by simp [Act.put,Act.eval]) w.heap.size (k+1) cur 3 HB.out cs HL.out (fun _=>⟨rfl,_,rfl,HSRC.out⟩) hfit HONE.out w.heap.size w hbd (Nat.le_refl _) ?_; intro w4 hg4 hb4))
    all_goals go_wp2
    all_goals (
     have hj:=HL.out
     have hj1:cs.length=min (k+1) (m-k):=hj
     have hcs:=HS.out
     rw [← hj1] at hcs
     have h4:=hg4.out
     rw [HC.out,hcs,Yw (k+1) cs.length (m-k) (Value.int .i64 v) (Value.int .i64 0) (by omega),show k+1+cs.length=k+cs.length+1 by omega,show m-k-cs.length=m-(k+cs.length) by omega] at h4)
    all_goals go_roundg (m-(k+cs.length))
    all_goals first
     | omega
     | (refine ⟨k+cs.length,by omega,rfl,by rw [show IntKind.i64.wrap ((k:Int)+1+(cs.length:Int))=(k:Int)+1+(cs.length:Int) from IntWalk.i64_in _ (by omega)]; congr 1; omega,h4,hb4⟩)
end Go.Proofs.YtfkcdnaghndgfaaGreatDoor
