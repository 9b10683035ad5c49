/- Plain mathematics of bits in bytes, the lowest first: the number of a list of bits (val), the lowest bits of a number (low), the bytes of a list of bits (outs, pack). -/
import Derived.Laws.BitsAllLaws
import Derived.Test.YtfkcdnaghndgfaaGreatDoorRows
import Derived.WalkKit
import Derived.Handy
import Derived.Lib.MinMax
import Derived.IntWalk
import Derived.BigQuiet
import Derived.StillTailTactics
import Derived.Deep.QuietTactic
import Derived.Deep.RegionHeld3
import Derived.Deep.RegionLaw
import Derived.Deep.DeepCutAuto
import Derived.Deep.DeepFit
import Derived.Deep.LoopGhost
import Derived.Deep.Light
import Derived.Deep.CutBlock
import Derived.Outline
import Derived.WalkSpells
import Derived.Lib.Hide
import Derived.Test.YtfkcdnaghndgfaaGreatDoorQAA
set_option linter.unusedVariables false
set_option linter.unusedSimpArgs false
set_option linter.unusedSectionVars false
namespace Go.Proofs.YtfkcdnaghndgfaaGreatDoor
def val:List Bool→Nat
 | []=>0
 | b::l=>b.toNat+2*val l
def low:Nat→Nat→List Bool
 | 0,_=>[]
 | k+1,v=>(v%2==1)::low k (v/2)
theorem Xm (l:List Bool):val l<2^l.length:=by
 induction l with
 | nil=>simp [val]
 | cons b l ih=>simp only [val,List.length_cons,Nat.pow_succ]; have:b.toNat≤1:=Bool.toNat_le b; omega
theorem jF (a b:List Bool):val (a++b)=val a+2^a.length*val b:=by
 induction a with
 | nil=>simp [val]
 | cons x a ih =>
   simp only [List.cons_append,val,ih,List.length_cons,Nat.pow_succ,Nat.mul_add]
   rw [Nat.mul_comm (2^a.length) 2,Nat.mul_assoc]; omega
theorem ze (k v:Nat):(low k v).length=k:=by
 induction k generalizing v with
 | zero=>rfl
 | succ k ih=>simp [low,ih]
theorem Qm (k v:Nat):val (low k v)=v%2^k:=by
 induction k generalizing v with
 | zero=>simp [low,val,Nat.mod_one]
 | succ k ih =>
   simp only [low,val,ih]
   have h1:(v%2==1).toNat=v%2:=by
    rcases Nat.mod_two_eq_zero_or_one v with h | h<;>simp [h]
   have h2:v%2^(k+1)=v%2+2*(v/2%2^k):=by
    rw [Nat.pow_succ,Nat.mul_comm,Nat.mod_mul]
   omega
theorem zia (l:List Bool):low l.length (val l)=l:=by
 induction l with
 | nil=>rfl
 | cons b l ih =>
   simp only [List.length_cons,low,val]
   have h1:(b.toNat+2*val l)/2=val l:=by have:=Bool.toNat_le b; omega
   have h2:((b.toNat+2*val l)%2==1)=b:=by
    have h:(b.toNat+2*val l)%2=b.toNat:=by have:=Bool.toNat_le b; omega
    rw [h]; cases b<;>rfl
   rw [h1,ih,h2]
theorem Xe (l:List Bool) (k:Nat) (h:k≤l.length):val (l.take k)=val l%2^k:=by
 have h1:=jF (l.take k) (l.drop k)
 rw [List.take_append_drop] at h1
 have h2:=Xm (l.take k)
 rw [List.length_take,Nat.min_eq_left h] at h1 h2
 rw [h1,Nat.add_mul_mod_self_left,Nat.mod_eq_of_lt h2]
theorem Xl (l:List Bool) (k:Nat) (h:k≤l.length):val (l.drop k)=val l/2^k:=by
 have h1:=jF (l.take k) (l.drop k)
 rw [List.take_append_drop] at h1
 have h2:=Xm (l.take k)
 rw [List.length_take,Nat.min_eq_left h] at h1 h2
 rw [h1,Nat.add_mul_div_left _ _ (Nat.two_pow_pos k),Nat.div_eq_of_lt h2,Nat.zero_add]
theorem Jr (k:Nat):val (List.replicate k false)=0:=by
 induction k with
 | zero=>rfl
 | succ k ih=>simp [List.replicate_succ,val,ih]
def jy (L:List Bool) (i:Nat):Nat:=val ((L.drop (8*i)).take 8)
def xB (L:List Bool) (m:Nat):List Nat:=(List.range m).map (jy L)
def rest (L:List Bool) (m:Nat):Nat:=val (L.drop (8*m))
def pack (L:List Bool):List Nat:=xB L ((L.length+7)/8)
theorem zfZ (L:List Bool) (i:Nat):jy L i<256:=by
 have h:=Xm ((L.drop (8*i)).take 8)
 have h2:((L.drop (8*i)).take 8).length≤8:=by simp; omega
 exact Nat.lt_of_lt_of_le h (Nat.pow_le_pow_right (by omega) h2)
theorem vR (L:List Bool) (m:Nat):(xB L m).length=m:=by simp [xB]
theorem Jl (L:List Bool) (m:Nat):xB L (m+1)=xB L m++[jy L m]:=by simp [xB,List.range_succ]
theorem zhN (L:List Bool) (m:Nat) : ∀ x∈xB L m,x<256:=by
 intro x hx
 simp only [xB,List.mem_map] at hx
 obtain ⟨i,_,rfl⟩:=hx
 exact zfZ L i
theorem Wh (L R:List Bool) (i:Nat) (h:8*(i+1)≤L.length):jy (L++R) i=jy L i:=by
 unfold jy
 rw [List.drop_append_of_le_length (by omega),List.take_append_of_le_length (by simp; omega)]
theorem vM (L R:List Bool) (m:Nat) (h:8*m≤L.length):xB (L++R) m=xB L m:=by
 unfold xB
 apply List.map_congr_left
 intro i hi
 rw [List.mem_range] at hi
 exact Wh L R i (by omega)
theorem zah (L R:List Bool) (m:Nat) (h:8*m≤L.length):rest (L++R) m=rest L m+2^(L.length-8*m)*val R:=by
 unfold rest
 rw [List.drop_append_of_le_length h,jF,List.length_drop]
theorem zcW (L:List Bool) (m:Nat):rest L m<2^(L.length-8*m):=by
 have h:=Xm (L.drop (8*m))
 rwa [List.length_drop] at h
theorem zbT (L:List Bool) (m:Nat) (h:8*(m+1)≤L.length):jy L m=rest L m%256:=by
 unfold jy rest
 rw [Xe _ _ (by simp; omega)]
theorem zfc (L:List Bool) (m:Nat) (h:8*(m+1)≤L.length):rest L (m+1)=rest L m/256:=by
 unfold rest
 rw [show 8*(m+1)=8*m+8 by omega,← List.drop_drop,Xl _ _ (by simp; omega)]
theorem zbZ (L:List Bool) (m:Nat) (h:L.length≤8*(m+1)):jy L m=rest L m:=by
 unfold jy rest
 rw [List.take_of_length_le (by simp; omega)]
theorem zaw (L:List Bool) (m:Nat) (h:L.length≤8*m):rest L m=0:=by
 unfold rest
 rw [List.drop_eq_nil_of_le h]; rfl
theorem zh4 (p X K n:Nat) (hp:p<2^n):p ||| (X &&& (2^K-1))*2^n=p+2^n*(X%2^K):=by
 rw [Nat.and_two_pow_sub_one_eq_mod,Nat.or_comm,nat_join' _ _ _ hp]
where
 nat_join' (y p n:Nat) (hp:p<2^n):y*2^n ||| p=p+2^n*y:=by
  rw [nat_join n (y*2^n) p (Nat.mul_mod_left _ _) hp,Nat.mul_comm,Nat.add_comm]
def zO (L:List Bool):List Bool:=L++List.replicate ((8-L.length%8)%8) false
theorem zT (L:List Bool):(zO L).length=8*((L.length+7)/8):=by
 simp only [zO,List.length_append,List.length_replicate]; omega
theorem zg8 (k:Nat):low k 0=List.replicate k false:=by
 induction k with
 | zero=>rfl
 | succ k ih=>simp [low,ih,List.replicate_succ]
theorem Jb (L:List Bool) (h:L.length%8=0):zO L=L:=by
 unfold zO; rw [h]; simp
def zn (s:List Nat):List Bool:=s.flatMap (low 8)
theorem zK (s:List Nat):(zn s).length=8*s.length:=by
 induction s with
 | nil=>rfl
 | cons x s ih=>simp only [zn,List.flatMap_cons,List.length_append,ze,List.length_cons] at *; omega
theorem YI (s:List Nat) (x:Nat):zn (s++[x])=zn s++low 8 x:=by simp [zn]
theorem Ka (L:List Bool) (m:Nat) (h:L.length=8*m) (s:List Nat) (hs : ∀ x∈s,x<256):xB (L++zn s) (m+s.length)=xB L m++s:=by
 induction s generalizing L m with
 | nil=>simp [zn]
 | cons x s ih =>
   have h1:L++zn (x::s)=(L++low 8 x)++zn s:=by simp [zn]
   rw [h1,List.length_cons,show m+(s.length+1)=(m+1)+s.length by omega,
    ih (L++low 8 x) (m+1) (by simp [ze]; omega) (fun y hy=>hs y (by simp [hy])),Jl,
    vM _ _ _ (by omega)]
   have h2:jy (L++low 8 x) m=x:=by
    unfold jy
    rw [List.drop_append_of_le_length (by omega),List.drop_eq_nil_of_le (by omega),List.nil_append,List.take_of_length_le (by simp [ze]),Qm]
    exact Nat.mod_eq_of_lt (by have:=hs x (by simp); omega)
   rw [h2]; simp
theorem zaJ (L:List Bool) (i n:Nat):val ((L.drop i).take n)<2^n:=by
 have h:=Xm ((L.drop i).take n)
 have h2:((L.drop i).take n).length≤n:=by simp; omega
 exact Nat.lt_of_lt_of_le h (Nat.pow_le_pow_right (by omega) h2)
end Go.Proofs.YtfkcdnaghndgfaaGreatDoor
namespace Go.Proofs.YtfkcdnaghndgfaaGreatDoor
def yE (l:List Int):Bool:=decide (l.length≤300)&&l.all fun k=>decide (0≤k)&&decide (k≤15)
def zf (l:List Int):List Nat:=l.map Int.toNat
theorem zH {l:List Int} (h:yE l=true):l.length≤300 ∧ ∀ k∈l,0≤k∧k≤15:=by
 simp only [yE,Bool.and_eq_true,decide_eq_true_eq,List.all_eq_true] at h
 exact h
theorem kw {l:List Int} (h1:l.length≤300) (h2 : ∀ k∈l,0≤k∧k≤15):yE l=true:=by
 simp only [yE,Bool.and_eq_true,decide_eq_true_eq,List.all_eq_true]
 exact ⟨h1,h2⟩
theorem yQ (l:List Int):(zf l).length=l.length:=by simp [zf]
def cnt (n:List Nat) (k:Nat):Nat:=if k=0 then 0 else n.count k
def wt (x:Nat):Nat:=if x=0 then 0 else 2^(15-x)
def yy (n:List Nat):Nat:=(n.map wt).sum
def qO (n:List Nat):Nat→Nat
 | 0=>0
 | k+1=>qO n k+cnt n k*2^(15-k)
def jb (n:List Nat):Nat:=if yy n=0 then 0 else if yy n<32768 then 2 else if yy n=32768 then 1 else 3
def zi (l:List Int):Nat:=if yE l then jb (zf l) else 3
def fst (n:List Nat):Nat→Nat
 | 0=>0
 | k+1=>2*(fst n k+cnt n k)
def zG (n:List Nat) (i:Nat):Nat:=if n.getD i 0=0 then 0 else fst n (n.getD i 0)+(n.take i).count (n.getD i 0)
def je (n:List Nat):List Nat:=(List.range n.length).map (zG n)
theorem zfN (n:List Nat) (k:Nat):cnt n k≤n.length:=by
 unfold cnt; split
 · omega
 · exact List.count_le_length
theorem zar (n:List Nat) (x k:Nat):cnt (n++[x]) k=cnt n k+if x=k∧k≠0 then 1 else 0:=by
 unfold cnt
 by_cases hk:k=0
 · simp [hk]
 · by_cases hx:x=k
   · subst hx; simp [hk]
   · simp [hk,hx]
theorem Vd (n:List Nat) (x:Nat):yy (n++[x])=yy n+wt x:=by simp [yy]
theorem zfg (n:List Nat) (x k:Nat):qO (n++[x]) k=qO n k+if x<k then wt x else 0:=by
 induction k with
 | zero=>simp [qO]
 | succ k ih =>
   simp only [qO,ih,zar]
   by_cases h1:x=k
   · subst h1
     simp only [Nat.lt_irrefl,if_false,Nat.lt_succ_self,if_true,wt]
     by_cases h0:x=0
     · simp [h0]
     · simp [h0,Nat.add_mul]; omega
   · by_cases h2:x<k
     · simp [h1,h2,show x<k+1 by omega]; try omega
     · simp [h1,h2,show ¬ x<k+1 by omega]
theorem YL {α:Type} {p:List α→Prop} (h0:p []) (hs : ∀ l x,p l→p (l++[x])) (l:List α):p l:=by
 have : ∀ k (l:List α),l.length=k→p l:=fun k=>by
  induction k with
  | zero=>intro l hl; rw [List.eq_nil_of_length_eq_zero hl]; exact h0
  | succ k ih =>
    intro l hl
    have hne:l≠[]:=by intro h; rw [h] at hl; simp at hl
    rw [← List.dropLast_concat_getLast hne]
    exact hs _ _ (ih _ (by simp [hl]))
 exact this _ l rfl
theorem YV (n:List Nat):(∀ x∈n,x≤15)→qO n 16=yy n:=by
 induction n using YL with
 | h0=>intro _; rfl
 | hs l x ih =>
   intro h
   rw [zfg,Vd,ih (fun y hy=>h y (by simp [hy])),if_pos (by have:=h x (by simp); omega)]
theorem zgC (n:List Nat) (k:Nat) (hk:k≤15):fst n k*2^(15-k)=qO n k:=by
 induction k with
 | zero=>simp [fst,qO]
 | succ k ih =>
   have h:=ih (by omega)
   have e:2^(15-k)=2*2^(15-(k+1)):=by rw [show 15-k=(15-(k+1))+1 by omega,Nat.pow_succ,Nat.mul_comm]
   simp only [fst,qO]
   rw [← h,← Nat.add_mul,e,Nat.mul_comm 2,Nat.mul_assoc]
theorem zfr (n:List Nat) {j k:Nat} (h:j≤k):qO n j≤qO n k:=by
 induction k with
 | zero=>have:j=0:=by omega
         subst this; exact Nat.le_refl _
 | succ k ih =>
   by_cases hj:j=k+1
   · subst hj; exact Nat.le_refl _
   · exact Nat.le_trans (ih (by omega)) (by simp [qO])
theorem Ql (n:List Nat) (hs:qO n 16≤32768) (k:Nat) (hk:k≤15):fst n k+cnt n k≤2^k:=by
 have h1:=zgC n k hk
 have h2:qO n (k+1)≤32768:=Nat.le_trans (zfr n (by omega)) hs
 simp only [qO] at h2
 rw [← h1,← Nat.add_mul] at h2
 have h3:2^k*2^(15-k)=32768:=by rw [← Nat.pow_add,show k+(15-k)=15 by omega]
 rw [← h3] at h2
 exact Nat.le_of_mul_le_mul_right h2 (Nat.two_pow_pos _)
theorem ziw (n:List Nat) (k:Nat) (hk:k≤16) (hn:n.length≤300):qO n k≤k*9830400:=by
 induction k with
 | zero=>simp [qO]
 | succ k ih =>
   have h1:=ih (by omega)
   have h2:=zfN n k
   have h3:2^(15-k)≤2^15:=Nat.pow_le_pow_right (by omega) (by omega)
   have h4:cnt n k*2^(15-k)≤300*2^15:=Nat.mul_le_mul (by omega) h3
   simp only [qO]
   omega
theorem zjA (x:Nat):wt x≤32768:=by
 unfold wt; split
 · omega
 · exact Nat.pow_le_pow_right (by omega) (show 15-x≤15 by omega)
theorem Ze (n:List Nat) (i x:Nat) (h:i<n.length) (hx:n.getD i 0=x):(n.take i).count x+1≤n.count x:=by
 have h1:n=n.take i++n[i]::n.drop (i+1):=by rw [List.getElem_cons_drop,List.take_append_drop]
 have h2:n[i]=x:=by rw [← hx]; simp [List.getD,h]
 conv=>rhs; rw [h1]
 rw [List.count_append,h2,List.count_cons_self]; omega
theorem zcA (n:List Nat):jb n=3↔32768<yy n:=by
 unfold jb
 split
 · omega
 · split
   · omega
   · split<;>omega
def cl0 (n:List Nat):List Nat:=(List.range 16).map fun k=>n.count k
def cl (n:List Nat):List Nat:=(List.range 16).map (cnt n)
theorem qb (n:List Nat):(cl0 n).length=16:=by simp [cl0]
theorem kF (n:List Nat):(cl n).length=16:=by simp [cl]
theorem Qc (n:List Nat) (k:Nat) (h:k<16):(cl0 n)[k]? =some (n.count k):=by simp [cl0,h]
theorem zcp (n:List Nat) (k:Nat) (h:k<16):(cl n)[k]? =some (cnt n k):=by simp [cl,h]
theorem zg3 (n:List Nat) (x:Nat) (h:x<16):cl0 (n++[x])=(cl0 n).set x (n.count x+1):=by
 apply List.ext_getElem?
 intro k
 by_cases hk:k<16
 · rw [Qc _ _ hk,List.getElem?_set,Qc _ _ hk]
   by_cases hx:x=k
   · subst hx; simp [qb,h]
   · simp [hx]
 · rw [List.getElem?_eq_none (by rw [qb]; omega),List.getElem?_eq_none (by rw [List.length_set,qb]; omega)]
theorem ziT (n:List Nat):(cl0 n).set 0 0=cl n:=by
 apply List.ext_getElem?
 intro k
 by_cases hk:k<16
 · rw [zcp _ _ hk,List.getElem?_set,Qc _ _ hk]
   by_cases hx:0=k
   · subst hx; simp [qb,cnt]
   · simp [hx,cnt,show ¬ k=0 by omega]
 · rw [List.getElem?_eq_none (by rw [List.length_set,qb]; omega),List.getElem?_eq_none (by rw [kF]; omega)]
theorem take_snoc' {α:Type} (l:List α) (i:Nat) (h:i<l.length):l.take (i+1)=l.take i++[l[i]]:=List.take_succ_eq_append_getElem h
theorem Zk {l:List Int} {i:Nat} (h:i<l.length) (hi:yE (l.take i)=true) (hl:l.length≤300) (h0:0≤l[i]) (h1:l[i]≤15):yE (l.take (i+1))=true:=by
 have h2:=zH hi
 refine kw (by simp; omega) (fun k hk=>?_)
 rw [take_snoc' l i h] at hk
 rcases List.mem_append.1 hk with hk | hk
 · exact h2.2 k hk
 · simp at hk; subst hk; exact ⟨h0,h1⟩
theorem Yg {l:List Int} {i:Nat} (h:i<l.length) (hb : ¬ (0≤l[i]∧l[i]≤15)):yE l=false:=by
 cases hc:yE l with
 | false=>rfl
 | true=>exact absurd ((zH hc).2 _ (List.getElem_mem h)) hb
theorem Zn {l:List Int} (h:300<l.length):yE l=false:=by
 cases hc:yE l with
 | false=>rfl
 | true=>exact absurd (zH hc).1 (by omega)
def fl (n:List Nat):List Nat:=(List.range 16).map (fst n)
def flp (n:List Nat) (k:Nat):List Nat:=(List.range 16).map fun j=>if j<k then fst n j else 0
def nx (n:List Nat) (i:Nat):List Nat:=(List.range 16).map fun k=>fst n k+cnt (n.take i) k
def JU (n:List Nat) (i:Nat):List Nat:=(List.range n.length).map fun j=>if j<i then zG n j else 0
theorem Jk {f g:Nat→Nat} {m k x:Nat} (hx:k<m→g k=x) (ho : ∀ j,j<m→j≠k→g j=f j):((List.range m).map f).set k x=(List.range m).map g:=by
 apply List.ext_getElem?
 intro j
 by_cases hj:j<m
 · rw [List.getElem?_set]
   by_cases hk:k=j
   · subst hk; simp [hj,hx hj]
   · simp [hk,hj,ho j hj (fun e=>hk e.symm)]
 · rw [List.getElem?_eq_none (by simp; omega),List.getElem?_eq_none (by simp; omega)]
theorem VW (n:List Nat):(fl n).length=16:=by simp [fl]
theorem zb7 (n:List Nat) (k:Nat):(flp n k).length=16:=by simp [flp]
theorem Zc (n:List Nat) (i:Nat):(JU n i).length=n.length:=by simp [JU]
theorem zhz (n:List Nat) (k:Nat):(flp n k).set k (fst n k)=flp n (k+1) :=
 Jk (fun _=>by simp) (fun j _ hj=>by
  by_cases h:j<k
  · simp [h,show j<k+1 by omega]
  · simp [h,show ¬ j<k+1 by omega])
theorem KX (n:List Nat) (k j:Nat) (h:j<16):(flp n k)[j]? =some (if j<k then fst n j else 0):=by simp [flp,h]
theorem zi4 (n:List Nat):flp n 16=fl n:=by
 unfold flp fl
 apply List.map_congr_left
 intro j hj
 rw [List.mem_range] at hj
 rw [if_pos hj]
theorem ziM (n:List Nat):flp n 1=List.replicate 16 0:=by
 apply List.ext_getElem?
 intro j
 by_cases hj:j<16
 · rw [KX _ _ _ hj,List.getElem?_replicate,if_pos hj]
   by_cases h:j<1
   · have:j=0:=by omega
     subst this; simp [fst]
   · simp [h]
 · rw [List.getElem?_eq_none (by rw [zb7]; omega),List.getElem?_eq_none (by simp; omega)]
theorem zjE (n:List Nat):nx n 0=fl n:=by
 unfold nx fl
 apply List.map_congr_left
 intro j _
 simp [cnt]
theorem zi3 (n:List Nat) (i k:Nat) (h:k<16):(nx n i)[k]? =some (fst n k+cnt (n.take i) k):=by simp [nx,h]
theorem JR (n:List Nat) (i k:Nat) (h:i<n.length):cnt (n.take (i+1)) k=cnt (n.take i) k+if n[i]=k∧k≠0 then 1 else 0:=by
 rw [take_snoc' n i h,zar]
theorem ziR (n:List Nat) (i:Nat) (h:i<n.length) (hp:n[i]≠0):(nx n i).set n[i] (fst n n[i]+cnt (n.take i) n[i]+1)=nx n (i+1) :=
 Jk (fun _=>by rw [JR _ _ _ h]; simp [hp]; omega) (fun j _ hj=>by
  simp only [JR _ _ _ h]
  rw [if_neg (fun e=>hj e.1.symm)]; omega)
theorem zhs (n:List Nat) (i:Nat) (h:i<n.length) (hp:n[i]=0):nx n (i+1)=nx n i:=by
 unfold nx
 apply List.map_congr_left
 intro j _
 rw [JR _ _ _ h,hp]
 by_cases hj:j=0
 · simp [hj]
 · simp [show ¬ 0=j by omega]
theorem Yv (n:List Nat) (i:Nat) (h:i<n.length) (hp:n[i]≠0):zG n i=fst n n[i]+cnt (n.take i) n[i]:=by
 have:n.getD i 0=n[i]:=by simp [List.getD,h]
 unfold zG cnt
 rw [this,if_neg hp,if_neg hp]
theorem Wn (n:List Nat) (i:Nat) (h:i<n.length) (hp:n[i]=0):zG n i=0:=by
 have:n.getD i 0=n[i]:=by simp [List.getD,h]
 unfold zG
 rw [this,if_pos hp]
theorem zgs (n:List Nat) (i:Nat):(JU n i).set i (zG n i)=JU n (i+1) :=
 Jk (fun _=>by simp) (fun j _ hj=>by
  by_cases h:j<i
  · simp [h,show j<i+1 by omega]
  · simp [h,show ¬ j<i+1 by omega])
theorem zdN (n:List Nat) (i:Nat) (h:i<n.length) (hp:n[i]=0):JU n (i+1)=JU n i:=by
 unfold JU
 apply List.map_congr_left
 intro j hj
 rw [List.mem_range] at hj
 by_cases h1:j<i
 · simp [h1,show j<i+1 by omega]
 · by_cases h2:j=i
   · subst h2; simp [Wn n j h hp]
   · simp [h1,show ¬ j<i+1 by omega]
theorem zi0 (n:List Nat):JU n 0=List.replicate n.length 0:=by
 apply List.ext_getElem?
 intro j
 by_cases hj:j<n.length
 · simp [JU,hj]
 · rw [List.getElem?_eq_none (by rw [Zc]; omega),List.getElem?_eq_none (by simp; omega)]
theorem zg0 (n:List Nat):JU n n.length=je n:=by
 unfold JU je
 apply List.map_congr_left
 intro j hj
 rw [List.mem_range] at hj
 rw [if_pos hj]
theorem Zw (n:List Nat) (i k:Nat):cnt (n.take i) k≤cnt n k:=by
 unfold cnt
 split
 · omega
 · exact List.Sublist.count_le _ (List.take_sublist i n)
theorem kU {l:List Int} (h:yE l=true) : ∀ x∈zf l,x≤15:=fun x hx=>by
 simp only [zf,List.mem_map] at hx
 obtain ⟨y,hy,rfl⟩:=hx
 have:=(zH h).2 y hy; omega
theorem xF {l:List Int} (h:zi l≠3):yE l=true∧qO (zf l) 16≤32768:=by
 unfold zi at h
 by_cases hok:yE l=true
 · rw [if_pos hok] at h
   refine ⟨hok,?_⟩
   rw [YV _ (kU hok)]
   have:=mt (zcA (zf l)).2 h
   omega
 · exact absurd (if_neg hok) h
def yM (v:Nat):Nat→Nat
 | 0=>0
 | i+1=>2*yM v i+v/2^i%2
theorem zaN (v i:Nat):yM v i<2^i:=by
 induction i with
 | zero=>simp [yM]
 | succ i ih=>simp only [yM,Nat.pow_succ]; have:v/2^i%2<2:=Nat.mod_lt _ (by omega); omega
theorem zeF (v K i:Nat) (h:i<K):yM v i*2^(K-i) ||| (v/2^i%2)*2^(K-1-i)=yM v (i+1)*2^(K-(i+1)):=by
 have e:2^(K-i)=2*2^(K-1-i):=by rw [show K-i=(K-1-i)+1 by omega,Nat.pow_succ,Nat.mul_comm]
 have h1:v/2^i%2<2:=Nat.mod_lt _ (by omega)
 have h2:(v/2^i%2)*2^(K-1-i)<2^(K-i):=by
  rw [e]; exact Nat.mul_lt_mul_of_pos_right h1 (Nat.two_pow_pos _)
 rw [nat_join (K-i) _ _ (Nat.mul_mod_left _ _) h2,show K-(i+1)=K-1-i by omega,e]
 simp only [yM]
 rw [Nat.add_mul,← Nat.mul_assoc,Nat.mul_comm (yM v i) 2]
theorem zbl (v K i:Nat) (h:i≤K) (hK:K≤32):yM v i*2^(K-i)<4294967296:=by
 have h1:yM v i*2^(K-i)<2^i*2^(K-i):=Nat.mul_lt_mul_of_pos_right (zaN v i) (Nat.two_pow_pos _)
 rw [← Nat.pow_add,show i+(K-i)=K by omega] at h1
 exact Nat.lt_of_lt_of_le h1 (Nat.pow_le_pow_right (by omega) hK)
theorem ziv (n:List Nat) {m:Nat} (h:n.length≤m):yy n≤m*32768:=by
 have:yy n≤n.length*32768:=by
  induction n with
  | nil=>simp [yy]
  | cons x n ih =>
    have:=zjA x
    have h2:=ih (by simp at h; omega)
    simp only [yy,List.map_cons,List.sum_cons,List.length_cons] at *
    omega
 exact Nat.le_trans this (Nat.mul_le_mul_right _ h)
def vD (n:List Nat) (k i:Nat):List Nat:=(List.range n.length).map fun j=>if (n.getD j 0<k)∨(n.getD j 0=k∧j<i) then zG n j else 0
theorem Zr (n:List Nat) (k i:Nat):(vD n k i).length=n.length:=by simp [vD]
theorem zgP (n:List Nat) (k i:Nat) (h:n.getD i 0=k):(vD n k i).set i (zG n i)=vD n k (i+1) :=
 Jk (fun _=>by rw [if_pos (.inr ⟨h,by omega⟩)]) (fun j _ hj=>by
  by_cases h1:n.getD j 0<k∨(n.getD j 0=k∧j<i)
  · rw [if_pos h1,if_pos (h1.imp id fun ⟨a,b⟩=>⟨a,by omega⟩)]
  · rw [if_neg h1,if_neg (fun h2=>h1 (h2.imp id fun ⟨a,b⟩=>⟨a,by omega⟩))])
theorem zfj (n:List Nat) (k i:Nat) (h:n.getD i 0≠k):vD n k (i+1)=vD n k i:=by
 unfold vD
 apply List.map_congr_left
 intro j _
 by_cases h1:n.getD j 0<k∨(n.getD j 0=k∧j<i)
 · rw [if_pos h1,if_pos (h1.imp id fun ⟨a,b⟩=>⟨a,by omega⟩)]
 · rw [if_neg h1,if_neg (fun h2=>h1 (h2.imp id fun ⟨a,b⟩=>⟨a,by
    have:j≠i:=fun e=>h (by rw [← e]; exact a)
    omega⟩))]
theorem zeB (n:List Nat) (k:Nat):vD n k n.length=vD n (k+1) 0:=by
 unfold vD
 apply List.map_congr_left
 intro j hj
 rw [List.mem_range] at hj
 by_cases h1:n.getD j 0<k+1
 · rw [if_pos (by omega),if_pos (by omega)]
 · rw [if_neg (by omega),if_neg (by omega)]
theorem zjh (n:List Nat):vD n 1 0=List.replicate n.length 0:=by
 apply List.ext_getElem?
 intro j
 by_cases hj:j<n.length
 · have:(vD n 1 0)[j]? =some (if (n.getD j 0<1)∨(n.getD j 0=1∧j<0) then zG n j else 0):=by simp [vD,hj]
   rw [this,List.getElem?_replicate,if_pos hj]
   by_cases h1:n.getD j 0<1
   · rw [if_pos (.inl h1)]; unfold zG; rw [if_pos (by omega)]
   · rw [if_neg (by omega)]
 · rw [List.getElem?_eq_none (by rw [Zr]; omega),List.getElem?_eq_none (by simp; omega)]
theorem zih (n:List Nat) (h : ∀ x∈n,x≤15):vD n 16 0=je n:=by
 unfold vD je
 apply List.map_congr_left
 intro j hj
 rw [List.mem_range] at hj
 have h1:n.getD j 0≤15:=by
  rw [List.getD,List.getElem?_eq_getElem hj]
  exact h _ (List.getElem_mem hj)
 rw [if_pos (.inl (by omega))]
def idx (n:List Nat) (k i:Nat):List Nat:=(List.range i).filter fun j=>n.getD j 0==k
def zbo (n:List Nat):Nat→List Nat
 | 0=>[]
 | k+1=>if k=0 then [] else zbo n k++idx n k n.length
theorem Xk (n:List Nat) (k i:Nat):idx n k (i+1)=idx n k i++if n.getD i 0=k then [i] else []:=by
 unfold idx
 rw [List.range_succ,List.filter_append]
 by_cases h:n.getD i 0=k
 · rw [if_pos h]; simp [List.filter_cons]; simpa [List.getD] using h
 · rw [if_neg h]; simp [List.filter_cons]; simpa [List.getD] using h
theorem Xi (n:List Nat) (k i:Nat) (hi:i≤n.length):(idx n k i).length=(n.take i).count k:=by
 induction i with
 | zero=>simp [idx]
 | succ i ih =>
   rw [Xk,List.length_append,ih (by omega),take_snoc' n i (by omega),List.count_append]
   have e:n.getD i 0=n[i]:=by simp [List.getD,show i<n.length by omega]
   rw [e]
   by_cases h:n[i]=k
   · rw [if_pos h,h]; simp
   · rw [if_neg h]; simp [h]
theorem Yn (n:List Nat) (k:Nat) (h:1≤k):(idx n k n.length).length=cnt n k:=by
 rw [Xi n k _ (Nat.le_refl _),List.take_length,cnt,if_neg (by omega)]
def jg (n:List Nat) (k c:Nat):Option Nat:=if fst n k≤c∧c<fst n k+cnt n k then some ((idx n k n.length).getD (c-fst n k) 0) else none
end Go.Proofs.YtfkcdnaghndgfaaGreatDoor
namespace Go.Proofs.YtfkcdnaghndgfaaGreatDoor
open Go.RowKit
structure IntsIn (w:World) (a:Option Addr) (len:Nat) (l:List Int):Prop where
 len:l.length=len
 cell : ∀ i (h:i<l.length),∃ b off,a=some ⟨b,off,none⟩∧w.cell? ⟨b,off+i,none⟩=some (.int .i64 l[i]) ∧ -9223372036854775808≤l[i]∧l[i]≤9223372036854775807
theorem IntsIn.upd {w w':World} {a:Option Addr} {len:Nat} {l:List Int} {fp:List Nat} (h:IntsIn w a len l) (hU:Upd fp w w') (hf : ∀ b off,a=some ⟨b,off,none⟩→b∉fp):IntsIn w' a len l :=
 ⟨h.len,fun i hi=>by
  obtain ⟨b,off,e,c,r⟩:=h.cell i hi
  have hb:b<w.heap.size:=World.block_lt_of_cell? w _ c
  exact ⟨b,off,e,(hU.at hb (hf b off e) _).trans c,r⟩⟩
theorem IntsIn.pure {w w':World} {a:Option Addr} {len:Nat} {l:List Int} (h:IntsIn w a len l) (hU:Upd [] w w'):IntsIn w' a len l:=h.upd hU (by simp)
def zg (l:List Nat):List Value:=l.map fun x:Nat => .int .i64 (x:Int)
theorem zw (l:List Nat):(zg l).length=l.length:=by simp [zg]
theorem xh (l:List Nat) (i x:Nat):zg (l.set i x)=(zg l).set i (.int .i64 (x:Int)):=by simp [zg,List.map_set]
theorem zC (l:List Nat) (i x:Nat) (h:l[i]? =some x):(zg l)[i]? =some (.int .i64 (x:Int)):=by simp [zg,h]
theorem xi (l:List Nat) : ∀ v∈zg l,v.oneCell'=true:=by
 intro v hv
 simp only [zg,List.mem_map] at hv
 obtain ⟨x,_,rfl⟩:=hv
 rfl
theorem IntsIn.of_blk {w:World} {b:Nat} {l:List Int} {t:TypeId} (h:Blk w b (l.map (Value.int .i64)) t) (hb : ∀ x∈l,-9223372036854775808≤x∧x≤9223372036854775807):IntsIn w (some ⟨b,0,none⟩) l.length l :=
 ⟨rfl,fun i hi=>⟨b,0,rfl,by rw [Nat.zero_add]; exact h.cell i (by simp [hi]),hb _ (List.getElem_mem hi)⟩⟩
theorem jk:(Tryz.prog.info? 3).map (fun i=>(i.zero,i.size,i.bytes))=some (some (.int .i64 0),1,8):=by kernel_rfl
end Go.Proofs.YtfkcdnaghndgfaaGreatDoor
