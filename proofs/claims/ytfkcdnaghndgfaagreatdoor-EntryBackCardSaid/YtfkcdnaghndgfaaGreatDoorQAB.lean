/- Plain mathematics of bits in bytes, the lowest first: the number of a list of bits (val), the lowest bits of a number (low), the bytes of a list of bits (outs, pack). -/
import Derived.Laws.BitsAllLaws
import Derived.Test.YtfkcdnaghndgfaaGreatDoorRows
import Derived.WalkKit
import Derived.Handy
import Derived.Lib.MinMax
import Derived.IntWalk
import Derived.BigQuiet
import Derived.StillTailTactics
import Derived.Deep.QuietTactic
import Derived.Deep.RegionHeld3
import Derived.Deep.RegionLaw
import Derived.Deep.DeepCutAuto
import Derived.Deep.DeepFit
import Derived.Deep.LoopGhost
import Derived.Deep.Light
import Derived.Deep.CutBlock
import Derived.Outline
import Derived.WalkSpells
import Derived.Lib.Hide
import Derived.Test.YtfkcdnaghndgfaaGreatDoorQAA
set_option linter.unusedVariables false
set_option linter.unusedSimpArgs false
set_option linter.unusedSectionVars false
namespace Go.Proofs.YtfkcdnaghndgfaaGreatDoor
def val:List Bool→Nat
 | []=>0
 | b::l=>b.toNat+2*val l
def low:Nat→Nat→List Bool
 | 0,_=>[]
 | k+1,v=>(v%2==1)::low k (v/2)
theorem Yd (l:List Bool):val l<2^l.length:=by
 induction l with
 | nil=>simp [val]
 | cons b l ih=>simp only [val,List.length_cons,Nat.pow_succ]; have:b.toNat≤1:=Bool.toNat_le b; omega
theorem jE (a b:List Bool):val (a++b)=val a+2^a.length*val b:=by
 induction a with
 | nil=>simp [val]
 | cons x a ih =>
   simp only [List.cons_append,val,ih,List.length_cons,Nat.pow_succ,Nat.mul_add]
   rw [Nat.mul_comm (2^a.length) 2,Nat.mul_assoc]; omega
theorem ze (k v:Nat):(low k v).length=k:=by
 induction k generalizing v with
 | zero=>rfl
 | succ k ih=>simp [low,ih]
theorem Qg (k v:Nat):val (low k v)=v%2^k:=by
 induction k generalizing v with
 | zero=>simp [low,val,Nat.mod_one]
 | succ k ih =>
   simp only [low,val,ih]
   have h1:(v%2==1).toNat=v%2:=by
    rcases Nat.mod_two_eq_zero_or_one v with h | h<;>simp [h]
   have h2:v%2^(k+1)=v%2+2*(v/2%2^k):=by
    rw [Nat.pow_succ,Nat.mul_comm,Nat.mod_mul]
   omega
theorem zhL (l:List Bool):low l.length (val l)=l:=by
 induction l with
 | nil=>rfl
 | cons b l ih =>
   simp only [List.length_cons,low,val]
   have h1:(b.toNat+2*val l)/2=val l:=by have:=Bool.toNat_le b; omega
   have h2:((b.toNat+2*val l)%2==1)=b:=by
    have h:(b.toNat+2*val l)%2=b.toNat:=by have:=Bool.toNat_le b; omega
    rw [h]; cases b<;>rfl
   rw [h1,ih,h2]
theorem Xz (l:List Bool) (k:Nat) (h:k≤l.length):val (l.take k)=val l%2^k:=by
 have h1:=jE (l.take k) (l.drop k)
 rw [List.take_append_drop] at h1
 have h2:=Yd (l.take k)
 rw [List.length_take,Nat.min_eq_left h] at h1 h2
 rw [h1,Nat.add_mul_mod_self_left,Nat.mod_eq_of_lt h2]
theorem XY (l:List Bool) (k:Nat) (h:k≤l.length):val (l.drop k)=val l/2^k:=by
 have h1:=jE (l.take k) (l.drop k)
 rw [List.take_append_drop] at h1
 have h2:=Yd (l.take k)
 rw [List.length_take,Nat.min_eq_left h] at h1 h2
 rw [h1,Nat.add_mul_div_left _ _ (Nat.two_pow_pos k),Nat.div_eq_of_lt h2,Nat.zero_add]
theorem Jw (k:Nat):val (List.replicate k false)=0:=by
 induction k with
 | zero=>rfl
 | succ k ih=>simp [List.replicate_succ,val,ih]
def jC (L:List Bool) (i:Nat):Nat:=val ((L.drop (8*i)).take 8)
def xB (L:List Bool) (m:Nat):List Nat:=(List.range m).map (jC L)
def rest (L:List Bool) (m:Nat):Nat:=val (L.drop (8*m))
def pack (L:List Bool):List Nat:=xB L ((L.length+7)/8)
theorem zf9 (L:List Bool) (i:Nat):jC L i<256:=by
 have h:=Yd ((L.drop (8*i)).take 8)
 have h2:((L.drop (8*i)).take 8).length≤8:=by simp; omega
 exact Nat.lt_of_lt_of_le h (Nat.pow_le_pow_right (by omega) h2)
theorem vW (L:List Bool) (m:Nat):(xB L m).length=m:=by simp [xB]
theorem Ji (L:List Bool) (m:Nat):xB L (m+1)=xB L m++[jC L m]:=by simp [xB,List.range_succ]
theorem zhk (L:List Bool) (m:Nat) : ∀ x∈xB L m,x<256:=by
 intro x hx
 simp only [xB,List.mem_map] at hx
 obtain ⟨i,_,rfl⟩:=hx
 exact zf9 L i
theorem Ky (L R:List Bool) (i:Nat) (h:8*(i+1)≤L.length):jC (L++R) i=jC L i:=by
 unfold jC
 rw [List.drop_append_of_le_length (by omega),List.take_append_of_le_length (by simp; omega)]
theorem vT (L R:List Bool) (m:Nat) (h:8*m≤L.length):xB (L++R) m=xB L m:=by
 unfold xB
 apply List.map_congr_left
 intro i hi
 rw [List.mem_range] at hi
 exact Ky L R i (by omega)
theorem zap (L R:List Bool) (m:Nat) (h:8*m≤L.length):rest (L++R) m=rest L m+2^(L.length-8*m)*val R:=by
 unfold rest
 rw [List.drop_append_of_le_length h,jE,List.length_drop]
theorem zc8 (L:List Bool) (m:Nat):rest L m<2^(L.length-8*m):=by
 have h:=Yd (L.drop (8*m))
 rwa [List.length_drop] at h
theorem zcj (L:List Bool) (m:Nat) (h:8*(m+1)≤L.length):jC L m=rest L m%256:=by
 unfold jC rest
 rw [Xz _ _ (by simp; omega)]
theorem zei (L:List Bool) (m:Nat) (h:8*(m+1)≤L.length):rest L (m+1)=rest L m/256:=by
 unfold rest
 rw [show 8*(m+1)=8*m+8 by omega,← List.drop_drop,XY _ _ (by simp; omega)]
theorem zbG (L:List Bool) (m:Nat) (h:L.length≤8*(m+1)):jC L m=rest L m:=by
 unfold jC rest
 rw [List.take_of_length_le (by simp; omega)]
theorem zaT (L:List Bool) (m:Nat) (h:L.length≤8*m):rest L m=0:=by
 unfold rest
 rw [List.drop_eq_nil_of_le h]; rfl
theorem zc9 (p X K n:Nat) (hp:p<2^n):p ||| (X &&& (2^K-1))*2^n=p+2^n*(X%2^K):=by
 rw [Nat.and_two_pow_sub_one_eq_mod,Nat.or_comm,nat_join' _ _ _ hp]
where
 nat_join' (y p n:Nat) (hp:p<2^n):y*2^n ||| p=p+2^n*y:=by
  rw [nat_join n (y*2^n) p (Nat.mul_mod_left _ _) hp,Nat.mul_comm,Nat.add_comm]
def zO (L:List Bool):List Bool:=L++List.replicate ((8-L.length%8)%8) false
theorem zU (L:List Bool):(zO L).length=8*((L.length+7)/8):=by
 simp only [zO,List.length_append,List.length_replicate]; omega
theorem zfz (k:Nat):low k 0=List.replicate k false:=by
 induction k with
 | zero=>rfl
 | succ k ih=>simp [low,ih,List.replicate_succ]
theorem Ju (L:List Bool) (h:L.length%8=0):zO L=L:=by
 unfold zO; rw [h]; simp
def zj (s:List Nat):List Bool:=s.flatMap (low 8)
theorem zK (s:List Nat):(zj s).length=8*s.length:=by
 induction s with
 | nil=>rfl
 | cons x s ih=>simp only [zj,List.flatMap_cons,List.length_append,ze,List.length_cons] at *; omega
theorem YE (s:List Nat) (x:Nat):zj (s++[x])=zj s++low 8 x:=by simp [zj]
theorem VA (L:List Bool) (m:Nat) (h:L.length=8*m) (s:List Nat) (hs : ∀ x∈s,x<256):xB (L++zj s) (m+s.length)=xB L m++s:=by
 induction s generalizing L m with
 | nil=>simp [zj]
 | cons x s ih =>
   have h1:L++zj (x::s)=(L++low 8 x)++zj s:=by simp [zj]
   rw [h1,List.length_cons,show m+(s.length+1)=(m+1)+s.length by omega,
    ih (L++low 8 x) (m+1) (by simp [ze]; omega) (fun y hy=>hs y (by simp [hy])),Ji,
    vT _ _ _ (by omega)]
   have h2:jC (L++low 8 x) m=x:=by
    unfold jC
    rw [List.drop_append_of_le_length (by omega),List.drop_eq_nil_of_le (by omega),List.nil_append,List.take_of_length_le (by simp [ze]),Qg]
    exact Nat.mod_eq_of_lt (by have:=hs x (by simp); omega)
   rw [h2]; simp
theorem Wc (L:List Bool) (i n:Nat):val ((L.drop i).take n)<2^n:=by
 have h:=Yd ((L.drop i).take n)
 have h2:((L.drop i).take n).length≤n:=by simp; omega
 exact Nat.lt_of_lt_of_le h (Nat.pow_le_pow_right (by omega) h2)
end Go.Proofs.YtfkcdnaghndgfaaGreatDoor
namespace Go.Proofs.YtfkcdnaghndgfaaGreatDoor
def yS (l:List Int):Bool:=decide (l.length≤300)&&l.all fun k=>decide (0≤k)&&decide (k≤15)
def zk (l:List Int):List Nat:=l.map Int.toNat
theorem zN {l:List Int} (h:yS l=true):l.length≤300 ∧ ∀ k∈l,0≤k∧k≤15:=by
 simp only [yS,Bool.and_eq_true,decide_eq_true_eq,List.all_eq_true] at h
 exact h
theorem Ze {l:List Int} (h1:l.length≤300) (h2 : ∀ k∈l,0≤k∧k≤15):yS l=true:=by
 simp only [yS,Bool.and_eq_true,decide_eq_true_eq,List.all_eq_true]
 exact ⟨h1,h2⟩
theorem xd (l:List Int):(zk l).length=l.length:=by simp [zk]
def cnt (n:List Nat) (k:Nat):Nat:=if k=0 then 0 else n.count k
def wt (x:Nat):Nat:=if x=0 then 0 else 2^(15-x)
def xL (n:List Nat):Nat:=(n.map wt).sum
def qy (n:List Nat):Nat→Nat
 | 0=>0
 | k+1=>qy n k+cnt n k*2^(15-k)
def jX (n:List Nat):Nat:=if xL n=0 then 0 else if xL n<32768 then 2 else if xL n=32768 then 1 else 3
def zp (l:List Int):Nat:=if yS l then jX (zk l) else 3
def fst (n:List Nat):Nat→Nat
 | 0=>0
 | k+1=>2*(fst n k+cnt n k)
def yg (n:List Nat) (i:Nat):Nat:=if n.getD i 0=0 then 0 else fst n (n.getD i 0)+(n.take i).count (n.getD i 0)
def YX (n:List Nat):List Nat:=(List.range n.length).map (yg n)
theorem zgV (n:List Nat) (k:Nat):cnt n k≤n.length:=by
 unfold cnt; split
 · omega
 · exact List.count_le_length
theorem zas (n:List Nat) (x k:Nat):cnt (n++[x]) k=cnt n k+if x=k∧k≠0 then 1 else 0:=by
 unfold cnt
 by_cases hk:k=0
 · simp [hk]
 · by_cases hx:x=k
   · subst hx; simp [hk]
   · simp [hk,hx]
theorem zeb (n:List Nat) (x:Nat):xL (n++[x])=xL n+wt x:=by simp [xL]
theorem zdZ (n:List Nat) (x k:Nat):qy (n++[x]) k=qy n k+if x<k then wt x else 0:=by
 induction k with
 | zero=>simp [qy]
 | succ k ih =>
   simp only [qy,ih,zas]
   by_cases h1:x=k
   · subst h1
     simp only [Nat.lt_irrefl,if_false,Nat.lt_succ_self,if_true,wt]
     by_cases h0:x=0
     · simp [h0]
     · simp [h0,Nat.add_mul]; omega
   · by_cases h2:x<k
     · simp [h1,h2,show x<k+1 by omega]; try omega
     · simp [h1,h2,show ¬ x<k+1 by omega]
theorem YC {α:Type} {p:List α→Prop} (h0:p []) (hs : ∀ l x,p l→p (l++[x])) (l:List α):p l:=by
 have : ∀ k (l:List α),l.length=k→p l:=fun k=>by
  induction k with
  | zero=>intro l hl; rw [List.eq_nil_of_length_eq_zero hl]; exact h0
  | succ k ih =>
    intro l hl
    have hne:l≠[]:=by intro h; rw [h] at hl; simp at hl
    rw [← List.dropLast_concat_getLast hne]
    exact hs _ _ (ih _ (by simp [hl]))
 exact this _ l rfl
theorem YY (n:List Nat):(∀ x∈n,x≤15)→qy n 16=xL n:=by
 induction n using YC with
 | h0=>intro _; rfl
 | hs l x ih =>
   intro h
   rw [zdZ,zeb,ih (fun y hy=>h y (by simp [hy])),if_pos (by have:=h x (by simp); omega)]
theorem zfB (n:List Nat) (k:Nat) (hk:k≤15):fst n k*2^(15-k)=qy n k:=by
 induction k with
 | zero=>simp [fst,qy]
 | succ k ih =>
   have h:=ih (by omega)
   have e:2^(15-k)=2*2^(15-(k+1)):=by rw [show 15-k=(15-(k+1))+1 by omega,Nat.pow_succ,Nat.mul_comm]
   simp only [fst,qy]
   rw [← h,← Nat.add_mul,e,Nat.mul_comm 2,Nat.mul_assoc]
theorem zeg (n:List Nat) {j k:Nat} (h:j≤k):qy n j≤qy n k:=by
 induction k with
 | zero=>have:j=0:=by omega
         subst this; exact Nat.le_refl _
 | succ k ih =>
   by_cases hj:j=k+1
   · subst hj; exact Nat.le_refl _
   · exact Nat.le_trans (ih (by omega)) (by simp [qy])
theorem ZS (n:List Nat) (hs:qy n 16≤32768) (k:Nat) (hk:k≤15):fst n k+cnt n k≤2^k:=by
 have h1:=zfB n k hk
 have h2:qy n (k+1)≤32768:=Nat.le_trans (zeg n (by omega)) hs
 simp only [qy] at h2
 rw [← h1,← Nat.add_mul] at h2
 have h3:2^k*2^(15-k)=32768:=by rw [← Nat.pow_add,show k+(15-k)=15 by omega]
 rw [← h3] at h2
 exact Nat.le_of_mul_le_mul_right h2 (Nat.two_pow_pos _)
theorem zhn (n:List Nat) (k:Nat) (hk:k≤16) (hn:n.length≤300):qy n k≤k*9830400:=by
 induction k with
 | zero=>simp [qy]
 | succ k ih =>
   have h1:=ih (by omega)
   have h2:=zgV n k
   have h3:2^(15-k)≤2^15:=Nat.pow_le_pow_right (by omega) (by omega)
   have h4:cnt n k*2^(15-k)≤300*2^15:=Nat.mul_le_mul (by omega) h3
   simp only [qy]
   omega
theorem ZK (n:List Nat) (i x:Nat) (h:i<n.length) (hx:n.getD i 0=x):(n.take i).count x+1≤n.count x:=by
 have h1:n=n.take i++n[i]::n.drop (i+1):=by rw [List.getElem_cons_drop,List.take_append_drop]
 have h2:n[i]=x:=by rw [← hx]; simp [List.getD,h]
 conv=>rhs; rw [h1]
 rw [List.count_append,h2,List.count_cons_self]; omega
theorem zcz (n:List Nat):jX n=3↔32768<xL n:=by
 unfold jX
 split
 · omega
 · split
   · omega
   · split<;>omega
def cl0 (n:List Nat):List Nat:=(List.range 16).map fun k=>n.count k
def cl (n:List Nat):List Nat:=(List.range 16).map (cnt n)
theorem xR (n:List Nat):(cl0 n).length=16:=by simp [cl0]
theorem xk (n:List Nat):(cl n).length=16:=by simp [cl]
theorem Qb (n:List Nat) (k:Nat) (h:k<16):(cl0 n)[k]? =some (n.count k):=by simp [cl0,h]
theorem XT (n:List Nat) (k:Nat) (h:k<16):(cl n)[k]? =some (cnt n k):=by simp [cl,h]
theorem zfd (n:List Nat) (x:Nat) (h:x<16):cl0 (n++[x])=(cl0 n).set x (n.count x+1):=by
 apply List.ext_getElem?
 intro k
 by_cases hk:k<16
 · rw [Qb _ _ hk,List.getElem?_set,Qb _ _ hk]
   by_cases hx:x=k
   · subst hx; simp [xR,h]
   · simp [hx]
 · rw [List.getElem?_eq_none (by rw [xR]; omega),List.getElem?_eq_none (by rw [List.length_set,xR]; omega)]
theorem ziC (n:List Nat):(cl0 n).set 0 0=cl n:=by
 apply List.ext_getElem?
 intro k
 by_cases hk:k<16
 · rw [XT _ _ hk,List.getElem?_set,Qb _ _ hk]
   by_cases hx:0=k
   · subst hx; simp [xR,cnt]
   · simp [hx,cnt,show ¬ k=0 by omega]
 · rw [List.getElem?_eq_none (by rw [List.length_set,xR]; omega),List.getElem?_eq_none (by rw [xk]; omega)]
theorem take_snoc' {α:Type} (l:List α) (i:Nat) (h:i<l.length):l.take (i+1)=l.take i++[l[i]]:=List.take_succ_eq_append_getElem h
theorem KT {l:List Int} {i:Nat} (h:i<l.length) (hi:yS (l.take i)=true) (hl:l.length≤300) (h0:0≤l[i]) (h1:l[i]≤15):yS (l.take (i+1))=true:=by
 have h2:=zN hi
 refine Ze (by simp; omega) (fun k hk=>?_)
 rw [take_snoc' l i h] at hk
 rcases List.mem_append.1 hk with hk | hk
 · exact h2.2 k hk
 · simp at hk; subst hk; exact ⟨h0,h1⟩
theorem zby {l:List Int} {i:Nat} (h:i<l.length) (hb : ¬ (0≤l[i]∧l[i]≤15)):yS l=false:=by
 cases hc:yS l with
 | false=>rfl
 | true=>exact absurd ((zN hc).2 _ (List.getElem_mem h)) hb
theorem zaK {l:List Int} (h:300<l.length):yS l=false:=by
 cases hc:yS l with
 | false=>rfl
 | true=>exact absurd (zN hc).1 (by omega)
def fl (n:List Nat):List Nat:=(List.range 16).map (fst n)
def flp (n:List Nat) (k:Nat):List Nat:=(List.range 16).map fun j=>if j<k then fst n j else 0
def nx (n:List Nat) (i:Nat):List Nat:=(List.range 16).map fun k=>fst n k+cnt (n.take i) k
def Qs (n:List Nat) (i:Nat):List Nat:=(List.range n.length).map fun j=>if j<i then yg n j else 0
theorem Qz {f g:Nat→Nat} {m k x:Nat} (hx:k<m→g k=x) (ho : ∀ j,j<m→j≠k→g j=f j):((List.range m).map f).set k x=(List.range m).map g:=by
 apply List.ext_getElem?
 intro j
 by_cases hj:j<m
 · rw [List.getElem?_set]
   by_cases hk:k=j
   · subst hk; simp [hj,hx hj]
   · simp [hk,hj,ho j hj (fun e=>hk e.symm)]
 · rw [List.getElem?_eq_none (by simp; omega),List.getElem?_eq_none (by simp; omega)]
theorem YL (n:List Nat):(fl n).length=16:=by simp [fl]
theorem zcb (n:List Nat) (k:Nat):(flp n k).length=16:=by simp [flp]
theorem Zs (n:List Nat) (i:Nat):(Qs n i).length=n.length:=by simp [Qs]
theorem zhl (n:List Nat) (k:Nat):(flp n k).set k (fst n k)=flp n (k+1) :=
 Qz (fun _=>by simp) (fun j _ hj=>by
  by_cases h:j<k
  · simp [h,show j<k+1 by omega]
  · simp [h,show ¬ j<k+1 by omega])
theorem KF (n:List Nat) (k j:Nat) (h:j<16):(flp n k)[j]? =some (if j<k then fst n j else 0):=by simp [flp,h]
theorem ziz (n:List Nat):flp n 16=fl n:=by
 unfold flp fl
 apply List.map_congr_left
 intro j hj
 rw [List.mem_range] at hj
 rw [if_pos hj]
theorem zil (n:List Nat):flp n 1=List.replicate 16 0:=by
 apply List.ext_getElem?
 intro j
 by_cases hj:j<16
 · rw [KF _ _ _ hj,List.getElem?_replicate,if_pos hj]
   by_cases h:j<1
   · have:j=0:=by omega
     subst this; simp [fst]
   · simp [h]
 · rw [List.getElem?_eq_none (by rw [zcb]; omega),List.getElem?_eq_none (by simp; omega)]
theorem zi8 (n:List Nat):nx n 0=fl n:=by
 unfold nx fl
 apply List.map_congr_left
 intro j _
 simp [cnt]
theorem ziL (n:List Nat) (i k:Nat) (h:k<16):(nx n i)[k]? =some (fst n k+cnt (n.take i) k):=by simp [nx,h]
theorem Yf (n:List Nat) (i k:Nat) (h:i<n.length):cnt (n.take (i+1)) k=cnt (n.take i) k+if n[i]=k∧k≠0 then 1 else 0:=by
 rw [take_snoc' n i h,zas]
theorem ziG (n:List Nat) (i:Nat) (h:i<n.length) (hp:n[i]≠0):(nx n i).set n[i] (fst n n[i]+cnt (n.take i) n[i]+1)=nx n (i+1) :=
 Qz (fun _=>by rw [Yf _ _ _ h]; simp [hp]; omega) (fun j _ hj=>by
  simp only [Yf _ _ _ h]
  rw [if_neg (fun e=>hj e.1.symm)]; omega)
theorem zhP (n:List Nat) (i:Nat) (h:i<n.length) (hp:n[i]=0):nx n (i+1)=nx n i:=by
 unfold nx
 apply List.map_congr_left
 intro j _
 rw [Yf _ _ _ h,hp]
 by_cases hj:j=0
 · simp [hj]
 · simp [show ¬ 0=j by omega]
theorem zbi (n:List Nat) (i:Nat) (h:i<n.length) (hp:n[i]≠0):yg n i=fst n n[i]+cnt (n.take i) n[i]:=by
 have:n.getD i 0=n[i]:=by simp [List.getD,h]
 unfold yg cnt
 rw [this,if_neg hp,if_neg hp]
theorem WV (n:List Nat) (i:Nat) (h:i<n.length) (hp:n[i]=0):yg n i=0:=by
 have:n.getD i 0=n[i]:=by simp [List.getD,h]
 unfold yg
 rw [this,if_pos hp]
theorem zfy (n:List Nat) (i:Nat):(Qs n i).set i (yg n i)=Qs n (i+1) :=
 Qz (fun _=>by simp) (fun j _ hj=>by
  by_cases h:j<i
  · simp [h,show j<i+1 by omega]
  · simp [h,show ¬ j<i+1 by omega])
theorem zd7 (n:List Nat) (i:Nat) (h:i<n.length) (hp:n[i]=0):Qs n (i+1)=Qs n i:=by
 unfold Qs
 apply List.map_congr_left
 intro j hj
 rw [List.mem_range] at hj
 by_cases h1:j<i
 · simp [h1,show j<i+1 by omega]
 · by_cases h2:j=i
   · subst h2; simp [WV n j h hp]
   · simp [h1,show ¬ j<i+1 by omega]
theorem ziu (n:List Nat):Qs n 0=List.replicate n.length 0:=by
 apply List.ext_getElem?
 intro j
 by_cases hj:j<n.length
 · simp [Qs,hj]
 · rw [List.getElem?_eq_none (by rw [Zs]; omega),List.getElem?_eq_none (by simp; omega)]
theorem zf6 (n:List Nat):Qs n n.length=YX n:=by
 unfold Qs YX
 apply List.map_congr_left
 intro j hj
 rw [List.mem_range] at hj
 rw [if_pos hj]
theorem zag (n:List Nat) (i k:Nat):cnt (n.take i) k≤cnt n k:=by
 unfold cnt
 split
 · omega
 · exact List.Sublist.count_le _ (List.take_sublist i n)
theorem Jj {l:List Int} (h:yS l=true) : ∀ x∈zk l,x≤15:=fun x hx=>by
 simp only [zk,List.mem_map] at hx
 obtain ⟨y,hy,rfl⟩:=hx
 have:=(zN h).2 y hy; omega
theorem xC {l:List Int} (h:zp l≠3):yS l=true∧qy (zk l) 16≤32768:=by
 unfold zp at h
 by_cases hok:yS l=true
 · rw [if_pos hok] at h
   refine ⟨hok,?_⟩
   rw [YY _ (Jj hok)]
   have:=mt (zcz (zk l)).2 h
   omega
 · exact absurd (if_neg hok) h
def yQ (v:Nat):Nat→Nat
 | 0=>0
 | i+1=>2*yQ v i+v/2^i%2
theorem WB (v i:Nat):yQ v i<2^i:=by
 induction i with
 | zero=>simp [yQ]
 | succ i ih=>simp only [yQ,Nat.pow_succ]; have:v/2^i%2<2:=Nat.mod_lt _ (by omega); omega
theorem zeE (v K i:Nat) (h:i<K):yQ v i*2^(K-i) ||| (v/2^i%2)*2^(K-1-i)=yQ v (i+1)*2^(K-(i+1)):=by
 have e:2^(K-i)=2*2^(K-1-i):=by rw [show K-i=(K-1-i)+1 by omega,Nat.pow_succ,Nat.mul_comm]
 have h1:v/2^i%2<2:=Nat.mod_lt _ (by omega)
 have h2:(v/2^i%2)*2^(K-1-i)<2^(K-i):=by
  rw [e]; exact Nat.mul_lt_mul_of_pos_right h1 (Nat.two_pow_pos _)
 rw [nat_join (K-i) _ _ (Nat.mul_mod_left _ _) h2,show K-(i+1)=K-1-i by omega,e]
 simp only [yQ]
 rw [Nat.add_mul,← Nat.mul_assoc,Nat.mul_comm (yQ v i) 2]
theorem zbC (v K i:Nat) (h:i≤K) (hK:K≤32):yQ v i*2^(K-i)<4294967296:=by
 have h1:yQ v i*2^(K-i)<2^i*2^(K-i):=Nat.mul_lt_mul_of_pos_right (WB v i) (Nat.two_pow_pos _)
 rw [← Nat.pow_add,show i+(K-i)=K by omega] at h1
 exact Nat.lt_of_lt_of_le h1 (Nat.pow_le_pow_right (by omega) hK)
def idx (n:List Nat) (k i:Nat):List Nat:=(List.range i).filter fun j=>n.getD j 0==k
def zR (n:List Nat):Nat→List Nat
 | 0=>[]
 | k+1=>if k=0 then [] else zR n k++idx n k n.length
theorem Qx (n:List Nat) (k i:Nat):idx n k (i+1)=idx n k i++if n.getD i 0=k then [i] else []:=by
 unfold idx
 rw [List.range_succ,List.filter_append]
 by_cases h:n.getD i 0=k
 · rw [if_pos h]; simp [List.filter_cons]; simpa [List.getD] using h
 · rw [if_neg h]; simp [List.filter_cons]; simpa [List.getD] using h
theorem jU (n:List Nat) (k:Nat) (h:1≤k):zR n (k+1)=zR n k++idx n k n.length:=by
 simp [zR,show ¬ k=0 by omega]
theorem zad (n:List Nat):zR n 1=[]:=by simp [zR]
theorem Ye (n:List Nat) (k i:Nat) (hi:i≤n.length):(idx n k i).length=(n.take i).count k:=by
 induction i with
 | zero=>simp [idx]
 | succ i ih =>
   rw [Qx,List.length_append,ih (by omega),take_snoc' n i (by omega),List.count_append]
   have e:n.getD i 0=n[i]:=by simp [List.getD,show i<n.length by omega]
   rw [e]
   by_cases h:n[i]=k
   · rw [if_pos h,h]; simp
   · rw [if_neg h]; simp [h]
theorem jD (n:List Nat) (k:Nat) (h:1≤k):(idx n k n.length).length=cnt n k:=by
 rw [Ye n k _ (Nat.le_refl _),List.take_length,cnt,if_neg (by omega)]
theorem Jz (n:List Nat) (k i:Nat):(idx n k i).length≤i:=by
 unfold idx; exact Nat.le_trans (List.length_filter_le _ _) (by simp)
theorem kE (n:List Nat) (k:Nat):(zR n k).length≤k*n.length:=by
 induction k with
 | zero=>simp [zR]
 | succ k ih =>
   simp only [zR]
   split
   · simp
   · rw [List.length_append,Nat.succ_mul]
     have:=Jz n k n.length
     omega
theorem JY (n:List Nat) (k:Nat) (h:1≤k):(zR n (k+1)).length=(zR n k).length+cnt n k:=by
 rw [jU n k h,List.length_append,jD n k h]
theorem Yx (n:List Nat) (k m:Nat) (h:1≤k) : ∃ r,zR n (k+m)=zR n k++r:=by
 induction m with
 | zero=>exact ⟨[],by simp⟩
 | succ m ih =>
   obtain ⟨r,hr⟩:=ih
   exact ⟨r++idx n (k+m) n.length,by rw [show k+(m+1)=(k+m)+1 by omega,jU n (k+m) (by omega),hr,List.append_assoc]⟩
theorem zgd (n:List Nat) (k j:Nat) (h1:1≤k) (h2:k≤15) (hj:j<cnt n k):(zR n 16)[(zR n k).length+j]? =some ((idx n k n.length).getD j 0):=by
 obtain ⟨r,hr⟩:=Yx n (k+1) (15-k) (by omega)
 rw [show k+1+(15-k)=16 by omega,jU n k h1] at hr
 have hl:=jD n k h1
 rw [hr,List.getElem?_append_left (by rw [List.length_append,hl]; omega),List.getElem?_append_right (by omega),show (zR n k).length+j-(zR n k).length=j by omega]
 rw [List.getD,List.getElem?_eq_getElem (by omega)]
 rfl
def qk (n:List Nat) (k c:Nat):Option Nat:=if fst n k≤c∧c<fst n k+cnt n k then some ((idx n k n.length).getD (c-fst n k) 0) else none
end Go.Proofs.YtfkcdnaghndgfaaGreatDoor
namespace Go.Proofs.YtfkcdnaghndgfaaGreatDoor
open Go.RowKit
structure IntsIn (w:World) (a:Option Addr) (len:Nat) (l:List Int):Prop where
 len:l.length=len
 cell : ∀ i (h:i<l.length),∃ b off,a=some ⟨b,off,none⟩∧w.cell? ⟨b,off+i,none⟩=some (.int .i64 l[i]) ∧ -9223372036854775808≤l[i]∧l[i]≤9223372036854775807
theorem IntsIn.upd {w w':World} {a:Option Addr} {len:Nat} {l:List Int} {fp:List Nat} (h:IntsIn w a len l) (hU:Upd fp w w') (hf : ∀ b off,a=some ⟨b,off,none⟩→b∉fp):IntsIn w' a len l :=
 ⟨h.len,fun i hi=>by
  obtain ⟨b,off,e,c,r⟩:=h.cell i hi
  have hb:b<w.heap.size:=World.block_lt_of_cell? w _ c
  exact ⟨b,off,e,(hU.at hb (hf b off e) _).trans c,r⟩⟩
theorem IntsIn.pure {w w':World} {a:Option Addr} {len:Nat} {l:List Int} (h:IntsIn w a len l) (hU:Upd [] w w'):IntsIn w' a len l:=h.upd hU (by simp)
def zg (l:List Nat):List Value:=l.map fun x:Nat => .int .i64 (x:Int)
theorem zn (l:List Nat):(zg l).length=l.length:=by simp [zg]
theorem xj (l:List Nat) (i x:Nat):zg (l.set i x)=(zg l).set i (.int .i64 (x:Int)):=by simp [zg,List.map_set]
theorem zL (l:List Nat) (i x:Nat) (h:l[i]? =some x):(zg l)[i]? =some (.int .i64 (x:Int)):=by simp [zg,h]
theorem xa (l:List Nat) : ∀ v∈zg l,v.oneCell'=true:=by
 intro v hv
 simp only [zg,List.mem_map] at hv
 obtain ⟨x,_,rfl⟩:=hv
 rfl
theorem IntsIn.of_blk {w:World} {b:Nat} {l:List Int} {t:TypeId} (h:Blk w b (l.map (Value.int .i64)) t) (hb : ∀ x∈l,-9223372036854775808≤x∧x≤9223372036854775807):IntsIn w (some ⟨b,0,none⟩) l.length l :=
 ⟨rfl,fun i hi=>⟨b,0,rfl,by rw [Nat.zero_add]; exact h.cell i (by simp [hi]),hb _ (List.getElem_mem hi)⟩⟩
theorem qJ:(Tryz.prog.info? 3).map (fun i=>(i.zero,i.size,i.bytes))=some (some (.int .i64 0),1,8):=by kernel_rfl
end Go.Proofs.YtfkcdnaghndgfaaGreatDoor
