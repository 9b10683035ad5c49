/- Package local: what is written, what is read: plain. -/
import Derived.Test.YtfkenhihcmmgkaaGreatDoorQAO
import Derived.Lib.FrozenHead
import Derived.Deep.OwnRows
set_option linter.unusedVariables false
set_option linter.unusedSimpArgs false
set_option linter.unusedSectionVars false
set_option maxRecDepth 100000
set_option maxHeartbeats 12800000
namespace Go.Proofs.YtfkenhihcmmgkaaGreatDoor
open Go.RowKit
def jY (r:RecD):List Nat:=[80,75,3,4,20,0,0,8]++(leP r.m.toNat 2++(leP r.t 4++(leP r.sum 4++(leP r.l.toNat 4++(leP r.wh.toNat 4++(leP (zw r.k r.p).length 2++([0,0]++zw r.k r.p)))))))
def We (r:RecD):List Nat:=if yf r=0 then jY r else []
theorem zfk (r:RecD):(jY r).length=30+(zw r.k r.p).length:=by simp [jY,zy]; omega
theorem zg6 (r:RecD) : ∀ x∈jY r,x<256:=by
 intro x hx;simp only [jY,List.mem_append] at hx;rcases hx with h | h | h | h | h | h | h | h | h
 · simp at h; omega
 all_goals first
  | exact Ya _ _ x h
  | exact xY _ _ x h
  | (simp at h; omega)
def qJ:RecD:=⟨.empty,0,0,0,0,0,0,0,0⟩
def zgN (h:HdD) (a:Nat):RecD:=⟨zg (zV h.name).1,h.m,h.sum,h.l,h.wh,((zV h.name).2.1:Nat),0,h.t,a⟩
def Jy (h:HdD):Bool:=(decide (h.beg=67324752)&&(decide (h.flags=2048)||decide (h.flags=2056))&&(decide (h.m=0)||decide (h.m=8)))&&(decide (h.flags=2048)||(decide (h.sum=0)&&decide (h.l=0)&&decide (h.wh=0)))
def YA (x:ByteArray) (a:Nat):RecD×Nat×Bool×Nat :=
 if x.size<30∨x.size<ja x then (qJ,0,false,3)
 else if Jy (hdP ⟨x,0,false⟩).1=false then (qJ,0,false,2)
 else if (zV (hdP ⟨x,0,false⟩).1.name).2.2=false then (qJ,0,false,5)
 else if xN ((zV (hdP ⟨x,0,false⟩).1.name).2.1:Nat) (hdP ⟨x,0,false⟩).1.t=false then (qJ,0,false,13)
 else (zgN (hdP ⟨x,0,false⟩).1 a,ja x,decide ((hdP ⟨x,0,false⟩).1.flags=2056),0)
def zn (s:ByteArray) (a:Int):RecD×Nat×Bool×Nat :=
 if a<0∨(s.size:Int)<a then (qJ,0,false,3) else YA (s.extract a.toNat s.size) a.toNat
theorem xv {r:RecD} (h:yf r=0):vF r=true∧qb r=true ∧ ¬ (r.md<0∨511<r.md)∧xN r.k r.t=true:=by
 unfold yf at h;split at h
 · cases h
 rename_i h1;split at h
 · cases h
 rename_i h2;split at h
 · cases h
 rename_i h3;split at h
 · cases h
 rename_i h4;exact ⟨by simpa using h1,by simpa using h2,h3,by simpa using h4⟩
theorem Za {n:Int} (h:yZ n=true):0≤n∧n<2147483648:=by
 unfold yZ at h;rw [Bool.and_eq_true,decide_eq_true_eq,decide_eq_true_eq] at h; exact h
theorem vK {r:RecD} (h:qb r=true):(r.m=0∨r.m=8)∧(0≤r.l∧r.l<2147483648)∧(0≤r.wh∧r.wh<2147483648)∧(0≤r.pos∧r.pos<2147483648):=by
 unfold qb at h;split at h
 · cases h
 rename_i h1;have hm:r.m=0∨r.m=8:=by
  by_cases h0:r.m=0
  · exact .inl h0
  · by_cases h8:r.m=8
    · exact .inr h8
    · exact absurd (.inl ⟨h0,h8⟩) h1
 refine ⟨hm,?_,?_,?_⟩
 · exact Za (by cases hb:yZ r.l with | true=>rfl | false=>exact absurd (.inr (.inl hb)) h1)
 · exact Za (by cases hb:yZ r.wh with | true=>rfl | false=>exact absurd (.inr (.inr (.inl hb))) h1)
 · exact Za (by cases hb:yZ r.pos with | true=>rfl | false=>exact absurd (.inr (.inr (.inr hb))) h1)
theorem zaq {r:RecD} (h:vF r=true):(zV (zw r.k r.p)).2.2=true∧(zV (zw r.k r.p)).1=zf r.p∧((zV (zw r.k r.p)).2.1:Int)=r.k:=by
 unfold vF at h;rw [Bool.and_eq_true,Bool.and_eq_true,decide_eq_true_eq,decide_eq_true_eq] at h;exact ⟨h.1.1,h.1.2,h.2⟩
theorem zjX (r:RS):(hdP r).1.beg<4294967296∧(hdP r).1.flags<65536∧(hdP r).1.m<65536∧(hdP r).1.t<4294967296∧(hdP r).1.sum<4294967296∧(hdP r).1.l<4294967296∧(hdP r).1.wh<4294967296∧(∀ x∈(hdP r).1.name,x<256)∧(hdP r).1.name.length≤65535:=by
 unfold hdP;dsimp only;refine ⟨RS.num_lt _ 4,RS.num_lt _ 2,RS.num_lt _ 2,RS.num_lt _ 4,RS.num_lt _ 4,RS.num_lt _ 4,RS.num_lt _ 4,RS.text_lt _ _,?_⟩;refine Nat.le_trans (RS.text_len _ _) ?_;have:=RS.num_lt ((((((((r.num 4).2.num 2).2.num 2).2.num 2).2.num 4).2.num 4).2.num 4).2.num 4).2 2;omega
def xX (x:ByteArray):Nat×Nat×Nat×Nat×Bool :=
 if x.size<12∨(gN x 0 4=134695760∧x.size<16) then (0,0,0,0,false)
 else if gN x 0 4=134695760 then (gN x 4 4,gN x 8 4,gN x 12 4,16,true) else (gN x 0 4,gN x 4 4,gN x 8 4,12,true)
def xm (s:ByteArray) (a:Int):Nat×Nat×Nat×Nat×Bool:=if a<0∨(s.size:Int)<a then (0,0,0,0,false) else xX (s.extract a.toNat s.size)
end Go.Proofs.YtfkenhihcmmgkaaGreatDoor
namespace Go.Proofs.YtfkenhihcmmgkaaGreatDoor
def yN (x:Nat):Nat:=if x%2=1 then (x/2) ^^^ 3988292384 else x/2
def jT:Nat→Nat→Nat
 | 0,x=>x
 | k+1,x=>jT k (yN x)
def qP (s b:Nat):Nat:=if (s+b)%2=1 then (s/2) ^^^ 3988292384 else s/2
def zes:Nat→Nat→Nat→Nat
 | 0,s,_=>s
 | k+1,s,n=>zes k (qP s (n%2)) (n/2)
def qg (s b:Nat):Nat:=jT 8 (s ^^^ b)
def yX (s:Nat) (l:List Nat):Nat:=l.foldl qg s
theorem zdv (a b:Nat):(a ^^^ b)%2=(a+b)%2:=by
 have h:=Nat.xor_mod_two_pow (a:=a) (b:=b) (n:=1);rw [Nat.pow_one] at h;rw [h];rcases (by omega:a%2=0∨a%2=1) with h1 | h1<;>rcases (by omega:b%2=0∨b%2=1) with h2 | h2<;>rw [h1,h2]<;>simp<;>omega
theorem WN (a b:Nat):(a ^^^ b)/2=(a/2) ^^^ (b/2):=by
 rw [Nat.xor_div_two]
theorem XI {x:Nat} (h:x<4294967296):yN x<4294967296:=by
 unfold yN;split
 · exact Nat.xor_lt_two_pow (n:=32) (by omega) (by omega)
 · omega
theorem KH : ∀ (k:Nat) {x:Nat},x<4294967296→jT k x<4294967296
 | 0,_,h=>h
 | k+1,_,h=>KH k (XI h)
theorem zeL (s n:Nat):qP s (n%2) ^^^ (n/2)=yN (s ^^^ n):=by
 unfold qP yN;rw [zdv,WN,show (s+n%2)%2=(s+n)%2 by omega];split
 · rw [Nat.xor_assoc,Nat.xor_comm 3988292384,← Nat.xor_assoc]
 · rfl
theorem zd8 : ∀ (k s n:Nat),n<2^k→zes k s n=jT k (s ^^^ n)
 | 0,s,n,h=>by
   have:n=0:=(by simpa using h);subst this;show s=s ^^^ 0;rw [Nat.xor_zero]
 | k+1,s,n,h=>by
   show zes k (qP s (n%2)) (n/2)=jT k (yN (s ^^^ n));rw [zd8 k _ _ (by rw [Nat.pow_succ] at h; omega),zeL]
theorem YX (x z:Nat):yN (x ^^^ (2*z))=yN x ^^^ z:=by
 unfold yN;rw [zdv,WN,show (x+2*z)%2=x%2 by omega,show 2*z/2=z by omega];split
 · rw [Nat.xor_assoc,Nat.xor_comm z,← Nat.xor_assoc]
 · rfl
theorem Kf : ∀ (k x y:Nat),jT k (x ^^^ (2^k*y))=jT k x ^^^ y
 | 0,x,y=>by simp [jT]
 | k+1,x,y=>by
   show jT k (yN (x ^^^ (2^(k+1)*y)))=jT k (yN x) ^^^ y;rw [show 2^(k+1)*y=2*(2^k*y) by rw [Nat.pow_succ,Nat.mul_comm (2^k) 2,Nat.mul_assoc],YX,Kf k]
theorem ze7 (s:Nat):(s%256) ^^^ (2^8*(s/256))=s:=by
 apply Nat.eq_of_testBit_eq;intro i;have h:=Nat.testBit_two_pow_mul_add (s/256) (i:=8) (b:=s%256) (by omega) i;rw [show 2^8*(s/256)+s%256=s by omega] at h;rw [Nat.testBit_xor,Nat.testBit_two_pow_mul,h];by_cases hi:i<8
 · rw [decide_eq_false (show ¬ i≥8 by omega),if_pos hi]; simp
 · have h0:(s%256).testBit i=false:=Nat.testBit_lt_two_pow (Nat.lt_of_lt_of_le (Nat.mod_lt s (by omega)) (show 256≤2^i from Nat.pow_le_pow_right (n:=2) (by omega) (show 8≤i by omega)));rw [decide_eq_true (show i≥8 by omega),if_neg hi,h0]; simp
theorem zeE (s b:Nat):jT 8 ((s%256) ^^^ b) ^^^ (s/256)=qg s b:=by
 unfold qg;have e:s ^^^ b=((s%256) ^^^ b) ^^^ (2^8*(s/256)):=by
  rw [Nat.xor_assoc,Nat.xor_comm b,← Nat.xor_assoc,ze7]
 rw [e,Kf]
theorem JM {s b:Nat} (hs:s<4294967296) (hb:b<256):qg s b<4294967296:=KH 8 (Nat.xor_lt_two_pow (n:=32) hs (by omega))
theorem JU : ∀ (l:List Nat) {s:Nat},s<4294967296→(∀ x∈l,x<256)→yX s l<4294967296
 | [],_,h,_=>h
 | x::l,_,h,hl=>JU l (JM h (hl x (by simp))) (fun y hy=>hl y (by simp [hy]))
theorem Qz (s:Nat) (l:List Nat) (x:Nat):yX s (l++[x])=qg (yX s l) x:=by simp [yX]
def xI (s:ByteArray):Nat:=4294967295-yX 4294967295 (zf s)
end Go.Proofs.YtfkenhihcmmgkaaGreatDoor
namespace Go.Proofs.YtfkenhihcmmgkaaGreatDoor
open Go.RowKit
def ofT:Except Nat (List Nat×Nat)→ByteArray×Nat×Nat
 | .ok (out,a)=>(zg out,(a+7)/8,0)
 | .error c=>(⟨#[]⟩,0,c)
theorem zdR (r:Except Nat (List Nat×Nat)):WF r = .tuple #[.string (ofT r).1,.int .i64 ((ofT r).2.1:Nat),.int .i64 ((ofT r).2.2:Nat)]:=by
 cases r with
 | ok x=>rfl
 | error c=>rfl
def Je (h r:RecD):Bool:=decide (h.p=r.p∧h.m=r.m∧h.k=r.k∧h.t=r.t∧h.pos=r.pos)
def qI (s:ByteArray) (h r:RecD) (f:Int) (b:Bool):Nat×Nat :=
 if b=true then
  (if (xm s (f+r.l)).2.2.2.2=false then (0,3)
  else if (xm s (f+r.l)).1≠r.sum∨((xm s (f+r.l)).2.1:Int)≠r.l∨((xm s (f+r.l)).2.2.1:Int)≠r.wh then (0,2) else ((xm s (f+r.l)).2.2.2.1,0))
 else if h.sum≠r.sum∨h.l≠r.l∨h.wh≠r.wh then (0,2) else (0,0)
def Wx (d:ByteArray) (r:RecD):ByteArray×Nat :=
 if 65000<r.wh then (⟨#[]⟩,4) else if (d.size:Int)≠r.wh then (⟨#[]⟩,2) else if r.k=1∧xI d≠r.sum then (⟨#[]⟩,11) else (d,0)
def xR (d:ByteArray) (r:RecD):ByteArray×Nat :=
 if r.m=8 then (if (ofT (ofP d r.wh)).2.2≠0 then (⟨#[]⟩,(ofT (ofP d r.wh)).2.2) else if (ofT (ofP d r.wh)).2.1≠d.size then (⟨#[]⟩,2) else Wx (ofT (ofP d r.wh)).1 r) else Wx d r
def xp (s:ByteArray) (r:RecD):ByteArray×Int×Nat :=
 if yf r≠0 then (⟨#[]⟩,0,1)
 else if (zn s r.pos).2.2.2≠0 then (⟨#[]⟩,0,(zn s r.pos).2.2.2)
 else if Je (zn s r.pos).1 r=false then (⟨#[]⟩,0,2)
 else if (qI s (zn s r.pos).1 r (r.pos+(zn s r.pos).2.1) (zn s r.pos).2.2.1).2≠0 then (⟨#[]⟩,0,(qI s (zn s r.pos).1 r (r.pos+(zn s r.pos).2.1) (zn s r.pos).2.2.1).2)
 else if (s.size:Int)-(r.pos+(zn s r.pos).2.1)<r.l then (⟨#[]⟩,0,3)
 else if (xR (s.extract (r.pos+(zn s r.pos).2.1).toNat (r.pos+(zn s r.pos).2.1+r.l).toNat) r).2≠0 then (⟨#[]⟩,0,(xR (s.extract (r.pos+(zn s r.pos).2.1).toNat (r.pos+(zn s r.pos).2.1+r.l).toNat) r).2)
 else ((xR (s.extract (r.pos+(zn s r.pos).2.1).toNat (r.pos+(zn s r.pos).2.1+r.l).toNat) r).1,(zn s r.pos).2.1+r.l+(qI s (zn s r.pos).1 r (r.pos+(zn s r.pos).2.1) (zn s r.pos).2.2.1).1,0)
def zd2 (x:ByteArray×Int×Nat):Value := .tuple #[.string x.1,.int .i64 x.2.1,.int .i64 (x.2.2:Nat)]
theorem Zc {r:RecD} (h:yf r=0):(0≤r.l∧r.l<2147483648)∧(0≤r.wh∧r.wh<2147483648)∧(0≤r.pos∧r.pos<2147483648)∧(r.k=1∨r.k=2∧r.sum=0∧r.l=0∧r.wh=0∧r.m=0):=by
 obtain ⟨h1,h2,-,-⟩:=xv h;unfold qb at h2;split at h2
 · cases h2
 rename_i h3;simp only [not_or,yZ,Bool.not_eq_false,Bool.and_eq_true,decide_eq_true_eq] at h3;refine ⟨h3.2.1,h3.2.2.1,h3.2.2.2,?_⟩;unfold vF at h1;simp only [Bool.and_eq_true,decide_eq_true_eq] at h1;have hk:=h1.2;have hp:=h1.1.1;by_cases h5:r.k=2
 · rw [if_pos h5] at h2;simp only [Bool.and_eq_true,decide_eq_true_eq] at h2;exact .inr ⟨h5,h2.1.1.1,h2.1.1.2,h2.1.2,h2.2⟩
 · left;unfold zV at hk hp
   repeat' split at hk
   all_goals simp_all
   all_goals omega
theorem QF {s:ByteArray} {a:Int} (h:(zn s a).2.2.2=0):(zn s a).1.pos=a∧(zn s a).2.1≤s.size∧0≤a∧a+(zn s a).2.1≤s.size:=by
 unfold zn at h ⊢;split at h
 · cases h
 rename_i h1;rw [if_neg h1];have hz:(s.extract a.toNat s.size).size=s.size-a.toNat:=by rw [ByteArray.size_extract]; omega
 unfold YA at h ⊢;split at h
 · cases h
 rename_i h2;rw [if_neg h2]
 repeat' split at h
 all_goals first | (cases h; done) | skip
 rename_i h3 h4 h5;rw [if_neg h3,if_neg h4,if_neg h5];refine ⟨?_,?_,?_,?_⟩
 · show ((a.toNat:Nat):Int)=a; omega
 · show ja _≤_; omega
 · omega
 · show a+((ja _:Nat):Int)≤_; omega
theorem YI (s:ByteArray) (h r:RecD) (f:Int) (b:Bool):(qI s h r f b).1≤16:=by
 have h1:(xm s (f+r.l)).2.2.2.1≤16:=by
  unfold xm xX
  repeat' split
  all_goals (dsimp only; omega)
 unfold qI
 repeat' split
 all_goals first | exact Nat.zero_le _ | exact h1
def qt (l:List RecD):Nat:=(l.map fun r=>46+(zw r.k r.p).length).sum
theorem VR (l:List RecD) (r:RecD):qt (l++[r])=qt l+(46+(zw r.k r.p).length):=by simp [qt]
theorem Qv (l:List RecD) (h : ∀ r∈l,r.p.size≤1000):qt l≤l.length*1047:=by
 induction l with
 | nil=>simp [qt]
 | cons r l ih =>
   have h1:=ih (fun x hx=>h x (List.mem_cons_of_mem _ hx));have h2:=xn r.k r.p;have h3:=h r (by simp);show (46+(zw r.k r.p).length)+qt l≤_;rw [List.length_cons];omega
def spC (l:List (Int×Int)):List Value:=l.flatMap fun x=>[.int .i64 x.1,.int .i64 x.2]
theorem zam (l:List (Int×Int)) (a b:Int):spC (l++[(a,b)])=spC l++[.int .i64 a,.int .i64 b]:=by simp [spC]
theorem zdr (l:List (Int×Int)) (i:Nat) (hi:i<l.length):(spC l)[i*2]? =some (.int .i64 l[i].1)∧(spC l)[i*2+1]? =some (.int .i64 l[i].2):=by
 induction l generalizing i with
 | nil=>simp at hi
 | cons x l ih =>
   have e:spC (x::l)=([.int .i64 x.1,.int .i64 x.2]:List Value)++spC l:=rfl;rw [e];cases i with
   | zero=>exact ⟨rfl,rfl⟩
   | succ j =>
     have:=ih j (by simpa using hi);rw [List.getElem?_append_right (by simp; omega),List.getElem?_append_right (by simp; omega)];simp only [List.length_cons,List.length_nil,List.getElem_cons_succ];rw [show (j+1)*2-(0+1+1)=j*2 by omega,show (j+1)*2+1-(0+1+1)=j*2+1 by omega];exact this
def yR (x o:Int×Int):Bool:=decide (o.1<x.2)&&decide (x.1<o.2)
def vZ (s:ByteArray) (E:Int):List RecD→List (Int×Int)→List (Int×Int)×Nat
 | [],out=>(out,0)
 | r::l,out =>
   if (xp s r).2.2≠0 then ([],(xp s r).2.2)
   else if E<r.pos+(xp s r).2.1∨out.any (yR (r.pos,r.pos+(xp s r).2.1))=true then ([],2)
   else vZ s E l (out++[(r.pos,r.pos+(xp s r).2.1)])
def qd (s:ByteArray) (l:List RecD):List (Int×Int)×Nat:=vZ s ((s.size:Int)-(qt l:Nat)-22) l []
def WB {α:Type} (pr:α→Bool) (l:List α):Int:=if l.findIdx pr<l.length then (l.findIdx pr:Nat) else -1
theorem zgf {α:Type} {pr:α→Bool} {l:List α} (i:Nat) (hi:i<l.length) (h:pr l[i]=true) (hn : ∀ j,(hj:j<l.length)→j<i→pr l[j]=false):WB pr l=(i:Nat):=by
 have e:l.findIdx pr=i:=by
  rw [List.findIdx_eq hi];exact ⟨h,fun j hj=>by simpa using hn j (by omega) hj⟩
 unfold WB;rw [e,if_pos hi]
theorem zjb {α:Type} {pr:α→Bool} {l:List α} (hn : ∀ j,(hj:j<l.length)→pr l[j]=false):WB pr l = -1:=by
 have e : ¬ l.findIdx pr<l.length:=by
  rw [List.findIdx_lt_length];rintro ⟨x,hx,h⟩;obtain ⟨j,hj,rfl⟩:=List.mem_iff_getElem.1 hx;rw [hn j hj] at h;cases h
 unfold WB;rw [if_neg e]
theorem zgQ {α:Type} (pr:α→Bool) (l:List α):decide (0≤WB pr l)=l.any pr:=by
 unfold WB;by_cases h:l.findIdx pr<l.length
 · rw [if_pos h,decide_eq_true (by omega)];rw [List.findIdx_lt_length] at h;exact (List.any_eq_true.2 h).symm
 · rw [if_neg h,decide_eq_false (by omega)];rw [List.findIdx_lt_length] at h;symm;rw [Bool.eq_false_iff];intro h2;exact h (List.any_eq_true.1 h2)
theorem zbE (s:ByteArray) (r:RecD) (hs:s.size≤1000000) (h:(xp s r).2.2=0):(0≤r.pos∧r.pos<2147483648)∧0≤(xp s r).2.1∧(xp s r).2.1≤3000000000:=by
 unfold xp at h ⊢;split at h
 · cases h
 rename_i h0;have hb:=Zc (r:=r) (by omega);rw [if_neg h0];split at h
 · rename_i h1; exact absurd h h1
 rename_i h1;have hp:=QF (s:=s) (a:=r.pos) (by omega);have ht:=YI s (zn s r.pos).1 r (r.pos+(zn s r.pos).2.1) (zn s r.pos).2.2.1;rw [if_neg h1];split at h
 · cases h
 rename_i h2;rw [if_neg h2];split at h
 · rename_i h3; exact absurd h h3
 rename_i h3;rw [if_neg h3];split at h
 · cases h
 rename_i h4;rw [if_neg h4];split at h
 · rename_i h5; exact absurd h h5
 rename_i h5;rw [if_neg h5];refine ⟨hb.2.2.1,?_,?_⟩
 · show 0≤((zn s r.pos).2.1:Int)+r.l+_; omega
 · show ((zn s r.pos).2.1:Int)+r.l+_≤_; omega
theorem zdZ:(Tryz.prog.info? 5).map (fun i=>(i.zero,i.size,i.bytes))=some (some (.int .u8 0),1,1):=by kernel_rfl
theorem Kr:(Tryz.prog.info? 99).map (·.size)=some 2:=by kernel_rfl
theorem WC:Tryz.prog.cellsOf 5=1:=by kernel_rfl
def QV (T:TypeId):Prop:=liesAt Tryz.prog Tryz.prog.depth T (2/Tryz.prog.cellsOf T) 0 99 1=true∧T≠5
def Bld (T:TypeId) (B b:Nat) (l:List Nat) (w:World):Prop:=Lib.IsBuilderF T 5 B b (u8s l) w
theorem Bld.fresh (T:TypeId) (w:World):Bld T w.heap.size w.heap.size [] (w.alloc (.cells #[.pointer none,.slice none 0 0] T)) := .of (Lib.fresh_isBuilder T _ w)
theorem Bld.drew {T:TypeId} {B b:Nat} {l:List Nat} {w:World} (h:Bld T B b l w):Bld T B b l w.drew:=h
theorem Bld.lt {T:TypeId} {B b:Nat} {l:List Nat} {w:World} (h:Bld T B b l w):b<w.heap.size:=h.elim (fun x=>x.lt) (fun x=>x.lt)
theorem zgp {T:TypeId} {B b:Nat} {p:Value} {bs:List Value} {w w':World} (h:Lib.BuilderAtF T 5 B b p bs w) (hu:Upd [] w w'):Lib.BuilderAtF T 5 B b p bs w':=by
 have hlt:=h.lt;obtain ⟨hB,v,hbk,hown,hne⟩:=h;refine ⟨hB,v,(hu.block b hlt (by simp)).trans hbk,⟨hown.1,?_⟩,hne⟩;rcases hown.2 with ⟨hv,hz⟩ | ⟨g,cap,cur,fz,hv,hBg,hg,r⟩
 · exact .inl ⟨hv,hz⟩
 · exact .inr ⟨g,cap,cur,fz,hv,hBg,(hu.block g (Array.getElem?_eq_some_iff.1 hg).1 (by simp)).trans hg,r⟩
theorem Bld.upd {T:TypeId} {B b:Nat} {l:List Nat} {w w':World} (h:Bld T B b l w) (hu:Upd [] w w'):Bld T B b l w':=h.elim (fun x => .inl (zgp x hu)) (fun x => .inr (zgp x hu))
def Kept (b:Nat) (w w':World):Prop := ∀ k cs T,k≠b→T≠5→Blk w k cs T→Blk w' k cs T
theorem Kept.refl (b:Nat) (w:World):Kept b w w:=fun _ _ _ _ _ h=>h
theorem Kept.trans {b:Nat} {u v w:World} (h:Kept b u v) (k:Kept b v w):Kept b u w:=fun j cs T h1 h2 h3=>k j cs T h1 h2 (h j cs T h1 h2 h3)
theorem Upd.kept {b:Nat} {w w':World} (h:Upd [] w w'):Kept b w w':=fun j cs T h1 h2 h3=>h3.upd h (by simp)
theorem zak {b o:Nat} {w:World} (v:Value):Kept b w (w.setCell ⟨b,o,none⟩ v):=fun j cs T h1 h2 h3=>h3.setFar v h1
theorem Xk {T:TypeId} (hT:QV T) (b:Nat) (w:World) (h0:w.cell? ⟨b,0,none⟩=some (.pointer none)) (hsh:w.shape? b=some (T,2)) (hfz:w.frozen? ⟨b,0,none⟩=false) :
 Calls Tryz.prog 91 #[.pointer (some ⟨b,0,none⟩)] w fun e w'=>e = .returned (.tuple #[])∧w'=w.setCell ⟨b,0,none⟩ (.pointer (some ⟨b,0,none⟩)):=by
 obtain ⟨j,hj,hjs⟩:=Option.map_eq_some_iff.1 Kr;go_enter Tryz.func91,Tryz.ntmps91;go_wp2;rw [Lib.run_to_unsafe w ⟨b,0,none⟩ Tryz.underlying96 Tryz.underlying211 hj (by rw [hjs]; decide) hsh (Nat.zero_lt_succ 1)];simp only [Result.andThen];rw [Oper.upon_value];go_wp2;rw [run_callFunc_extern Tryz.func157 (by kernel_rfl) (by kernel_rfl) (by kernel_rfl) (e:=Extern.AbiNoEscape.same) (by kernel_rfl)];rw [Lib.run_noEscape];simp only [Result.andThen];rw [Oper.upon_value];go_wp2;rw [Lib.run_from_unsafe w ⟨b,0,none⟩ Tryz.underlying211 Tryz.underlying96 hj hsh hT.1];simp only [Result.andThen];rw [Oper.upon_value];go_wp2
 go_end0
 exact ⟨rfl,rfl⟩
theorem Yw {T:TypeId} (hT:QV T) (B b:Nat) (l:List Nat) (w:World) (h:Bld T B b l w) :
 Calls Tryz.prog 91 #[.pointer (some ⟨b,0,none⟩)] w fun e w'=>e = .returned (.tuple #[])∧Lib.BuilderAtF T 5 B b (.pointer (some ⟨b,0,none⟩)) (u8s l) w'∧Below B w w'∧Kept b w w':=by
 rcases h with h | h
 · refine (Xk hT b w h.cell0 h.shape h.frozen0).mono ?_;rintro e w' ⟨rfl,rfl⟩;exact ⟨rfl,h.used _,(Below.refl _ _).setCell (p:=⟨b,0,none⟩) h.1 _,zak _⟩
 · obtain ⟨j,hj,hjs⟩:=Option.map_eq_some_iff.1 Kr;have h0:=h.cell0;have hF:=Hi h;have hNE:=fun w=>Lib.run_neq_ptr_same (P:=Tryz.prog) w (tp:=96) (te:=99) ⟨b,0,none⟩ Tryz.underlying96 hj;clear h;go_enter Tryz.func91,Tryz.ntmps91;go_wp2
   go_end0
   exact ⟨rfl,hF.out,Below.refl _ _,Kept.refl _ _⟩
theorem zgb {B:Nat} {w:World} {v:Value} {n:Nat} {xs:List Value} (h:w.ownsRowF B 5 1 v n xs) {k:Nat} {cs:List Value} {T:TypeId} (hk:Blk w k cs T) (hT:T≠5):v.ownBlock≠some k:=Lib.ownBlock_neF h hk hT
theorem kH {T:TypeId} (hT:QV T) (B b:Nat) (l:List Nat) (s:ByteArray) (w:World) (h:Bld T B b l w) (hlen:l.length+s.size≤1000000000) (hBw:B≤w.heap.size) :
 Calls Tryz.prog 48 #[.pointer (some ⟨b,0,none⟩),.string s] w fun e w'=>e = .returned (.tuple #[.int .i64 s.size,.nilIface])∧Bld T B b (l++zf s) w'∧Below B w w'∧Kept b w w':=by
 obtain ⟨i0,hi,hz0,hz1,hz2⟩:=info_parts zdZ;have HC:=Hi (Yw hT B b l w h);clear h;go_enter Tryz.func48,Tryz.ntmps48;go_wp2_with fail
 refine HC.out.mono ?_;rintro e w1 ⟨rfl,h1,hb1,hk1⟩;obtain ⟨hB,v,hbk,hown,hne⟩:=h1;have hlt:b<w1.heap.size:=Lib.BuilderAtF.lt ⟨hB,v,hbk,hown,hne⟩;have c0:w1.cell? ⟨b,0,none⟩=some (.pointer (some ⟨b,0,none⟩)):=by rw [Lib.cell_of_heap hbk]; rfl
 have c1:w1.cell? ⟨b,1,none⟩=some v:=by rw [Lib.cell_of_heap hbk]; rfl
 have HBK:=Hi hbk;have hul:(u8s l).length=l.length:=jN l;clear hbk;go_wp2_with (at_builtin; refine Lib.wpList_append_own_stringF _ rfl _ _ 97 9 rfl B 5 i0 Tryz.underlying97 Tryz.underlying9 hi hz0 hz1 hz2 _ _ _ rfl hown s rfl ?c3 ?c4 ?c5 ?_)
 case c3=>unfold maxLen; omega
 case c4=>omega
 case c5=>have:=hb1.size; omega
 intro v' w2 hown' hgrow _;have hb2:w2.heap[b]? =some (.cells #[.pointer (some ⟨b,0,none⟩),v] T (0,0)):=by
  rw [hgrow.block b hlt (fun e=>hne e.symm)];exact HBK.out
 have d1:w2.cell? ⟨b,1,none⟩=some v:=by rw [Lib.cell_of_heap hb2]; rfl
 have f1:w2.frozen? ⟨b,1,none⟩=false:=Lib.frozen_of_heap hb2 1;obtain ⟨ao,n',cap,rfl⟩ : ∃ ao n' cap,v' = .slice ao n' cap:=by
  rcases hown'.2 with ⟨hv,_⟩ | ⟨g,cap,cur,fz,hv,_⟩
  · exact ⟨_,_,_,hv⟩
  · exact ⟨_,_,_,hv⟩
 have HFIN:Hid (Bld T B b (l++zf s) (w2.setCell ⟨b,1,none⟩ (.slice ao n' cap))∧Below B w (w2.setCell ⟨b,1,none⟩ (.slice ao n' cap))∧Kept b w (w2.setCell ⟨b,1,none⟩ (.slice ao n' cap))):=Hi ⟨.inr (by
  rw [vR] at hown';have e:u8s l++u8s (zf s)=u8s (l++zf s):=(XF _ _).symm;rw [e] at hown';exact Lib.BuilderAtF.put (T:=T) (e:=5) hB hb2 (bs':=u8s (l++zf s)) (by
   have e2:(u8s (l++zf s)).length=l.length+s.size:=(by rw [jN,List.length_append,zi]);rw [e2]; exact hown') hT.2),(hb1.grown hgrow (by have:=hb1.size; omega) (fun k hk=>(hown.lt k hk).1)).setCell (p:=⟨b,1,none⟩) hB _,
   (hk1.trans (fun j cs T' h1 h2 h3=>h3.grown hgrow (zgb hown h3 h2))).trans (zak _)⟩
 clear hown' hgrow hb2 hown hb1 hk1;go_wp2
 go_ret2
 exact ⟨rfl,HFIN.out⟩
theorem ZW {T:TypeId} (hT:QV T) (B b:Nat) (l:List Nat) (s:ByteArray) (w:World) (h:Bld T B b l w) (hlen:l.length+s.size≤1000000000) (hBw:B≤w.heap.size) :
 Calls Tryz.prog 48 #[.pointer (some ⟨b,0,none⟩),.string s] w fun e w'=>e = .returned (.tuple #[.int .i64 s.size,.nilIface])∧Bld T B b (l++zf s) w'∧Below B w w' :=
 (kH hT B b l s w h hlen hBw).mono fun _ _ h=>⟨h.1,h.2.1,h.2.2.1⟩
theorem strOf_eq' (l:List Nat) (h : ∀ x∈l,x<256):u8s l=Lib.byteCells (l.map UInt8.ofNat):=by
 unfold u8s Lib.byteCells;rw [List.map_map];refine List.map_congr_left fun x hx=>?_;have:=h x hx;simp only [Function.comp,UInt8.toNat_ofNat'];rw [Nat.mod_eq_of_lt (by omega)]
theorem KU {T:TypeId} (B b:Nat) (l:List Nat) (w:World) (h:Bld T B b l w) (h0:l≠[]) (hb : ∀ x∈l,x<256) :
 Calls Tryz.prog 52 #[.pointer (some ⟨b,0,none⟩)] w fun e w'=>e = .returned (.string (zg l))∧Bld T B b l w'∧Below B w w'∧Kept b w w':=by
 obtain ⟨p,hp,hAt⟩ : ∃ p,(p = .pointer none∨p = .pointer (some ⟨b,0,none⟩))∧Lib.BuilderAtF T 5 B b p (u8s l) w:=by
  rcases h with h | h
  · exact ⟨_,.inl rfl,h⟩
  · exact ⟨_,.inr rfl,h⟩
 have HA:=Hi hAt;obtain ⟨hB,v,hbk,hown,hne⟩:=hAt;have hl0:l.length≠0:=by simpa using h0
 have hlu:=jN l;rw [hlu] at hown;obtain ⟨g,cap,cur,fz,rfl,hbg,hg,hfz,hnc,hcm,hcs,htake⟩ : ∃ g cap cur fz,v = .slice (some ⟨g,0,none⟩) l.length cap∧B≤g∧w.heap[g]? =some (.cells cur 5 fz)∧fz.2≤l.length*1∧l.length≤cap∧cap≤maxLen∧cur.size=cap*1∧cur.toList.take (l.length*1)=u8s l:=by
  rcases hown.2 with ⟨_,hz⟩ | ⟨g,cap,cur,fz,hv,r⟩
  · exact absurd hz hl0
  · exact ⟨g,cap,cur,fz,hv,r⟩
 have c1:w.drew.cell? ⟨b,1,none⟩=some (.slice (some ⟨g,0,none⟩) l.length cap):=by
  have:w.drew.heap[b]? =some (.cells #[p,.slice (some ⟨g,0,none⟩) l.length cap] T (0,0)):=hbk;rw [Lib.cell_of_heap this]; rfl
 have hSD:(Builtin.unsafeSliceData_ #[97] 157 #[.slice (some ⟨g,0,none⟩) l.length cap]).run Tryz.prog w.drew = .ok (.pointer (some ⟨g,0,none⟩)) w.drew :=
  Lib.run_unsafeSliceData_row _ _ _ _ _ _ (by omega)
 have hml:(l.map UInt8.ofNat).length=l.length:=by simp
 have hUS:(Builtin.unsafeString_ #[157,3] 9 #[.pointer (some ⟨g,0,none⟩),.int .i64 l.length]).run Tryz.prog w.drew = .ok (.string (zg l)) (w.drew.freeze ⟨g,0,none⟩ l.length):=by
  have:=Lib.run_unsafeString_row (P:=Tryz.prog) w.drew 157 3 9 5 Tryz.underlying157 WC g cur.size (by have hg':w.drew.heap[g]? =some (.cells cur 5 fz):=hg; simp [World.shape?,hg']) (l.map UInt8.ofNat) (by simpa using h0) (by rw [hml]; omega) (by rw [hml]; unfold maxLen at hcm; omega) (by
   intro j x hx;have:=hown.cells (g:=g) rfl j (.int .u8 x.toNat) (by
    rw [strOf_eq' l hb]; unfold Lib.byteCells; rw [List.getElem?_map,hx]; rfl)
   exact this)
  rw [hml] at this;exact this
 clear hml;have HFIN:Hid (Bld T B b l (w.drew.freeze ⟨g,0,none⟩ l.length)∧Below B w (w.drew.freeze ⟨g,0,none⟩ l.length)∧Kept b w (w.drew.freeze ⟨g,0,none⟩ l.length)):=Hi ⟨by
  have hF:=(show Lib.BuilderAtF T 5 B b p (u8s l) w.drew from HA.out).froze (g:=g) (cap:=cap) (by rw [hlu]; exact c1);rw [hlu] at hF;rcases hp with rfl | rfl
  · exact .inl hF
  · exact .inr hF,Lib.below_freeze (Below.drew (Below.refl B w)) (p:=⟨g,0,none⟩) hbg _,fun k cs T' h1 h2 h3=>by
  have hk:k≠g:=by
   rintro rfl;unfold Blk at h3;rw [hg] at h3;simp only [Option.some.injEq,Obj.cells.injEq] at h3;exact h2 h3.2.1.symm
  unfold Blk World.freeze;split
  · exact h3
  · simp only [Array.getElem?_modify];rw [if_neg (Ne.symm hk)];exact h3⟩
 have HTK:=Hi htake;clear htake hown hg hbk hne h HA;go_enter Tryz.func52,Tryz.ntmps52;go_wp2
 go_region
 all_goals (go_wp2; go_ret; exact ⟨rfl,HFIN.out⟩)
theorem ZN {T:TypeId} (B b:Nat) (l:List Nat) (w:World) (h:Bld T B b l w) (h0:l≠[]) (hb : ∀ x∈l,x<256) :
 Calls Tryz.prog 52 #[.pointer (some ⟨b,0,none⟩)] w fun e w'=>e = .returned (.string (zg l))∧Below B w w' :=
 (KU B b l w h h0 hb).mono fun _ _ h=>⟨h.1,h.2.2.1⟩
theorem zhb:(Tryz.prog.info? 5).map (fun i=>(i.zero,i.size,i.bytes))=some (some (.int .u8 0),1,1):=by kernel_rfl
theorem Blk.conv {P:Program} {w:World} {b n c:Nat} {l:List Nat} {src dst e:TypeId} (h:Blk w b (u8s l) e) (hl:l.length=n) (hs:P.underlying src=some (.slice e)) (he:P.underlying e=some (.int .u8)) (hd:P.underlying dst=some .string) :
 (convert src dst (.slice (some ⟨b,0,none⟩) n c)).run P w = .ok (.string (zg l)) w:=by
 have hr:=run_convert_bytes_arg w src e hs he b 0 n c (l.map fun x:Nat=>(x:Int)) (by simpa using hl) (fun i hi=>by
  have hil:i<l.length:=by omega
  rw [Nat.zero_add];refine h.cell i ?_;simp [u8s,hil]) dst hd
 rw [hr]
 congr 2
 simp only [strOfNums,zg,List.map_map]
 congr 2
theorem ziE (i:Nat):(2:Nat)^(8*i)=256^i:=by rw [Nat.pow_mul]
theorem zjR (a b:Nat) (ha:a<18446744073709551616) (hb:b<18446744073709551616):bits .or .u64 (a:Int) (b:Int)=((a ||| b:Nat):Int):=by
 show IntKind.u64.wrap ((BitVec.ofInt 64 (a:Int) ||| BitVec.ofInt 64 (b:Int)).toNat:Int)=_;rw [BitVec.toNat_or,xD 64 a ha,xD 64 b hb];exact IntWalk.u64_in _ (by have:=Nat.or_lt_two_pow (n:=64) ha hb; omega)
theorem zjQ (m x i:Nat) (hm:m<256^i) (hx:x<256) (hi:i≤7):bits BinOp.or IntKind.u64 (m:Int) (IntKind.u64.wrap (IntKind.u64.wrap (x:Int)*2^(8*i)))=((m+256^i*x:Nat):Int):=by
 have hp:256^i≤256^7:=Nat.pow_le_pow_right (by omega) hi;have h1:IntKind.u64.wrap (x:Int)=(x:Int):=IntWalk.u64_in _ (by omega);have hb:256^i*x≤256^7*255:=Nat.mul_le_mul hp (by omega);have e2:(x:Int)*2^(8*i)=((256^i*x:Nat):Int):=by rw [← ziE]; push_cast; exact Int.mul_comm _ _
 rw [h1,e2,IntWalk.u64_in _ (by omega),zjR _ _ (by omega) (by omega),← ziE,Nat.or_comm,← Nat.two_pow_add_eq_or_of_lt (by rw [ziE]; exact hm),Nat.add_comm]
theorem zhV (l:List Nat) (i x:Nat):(u8s l).set i (.int .u8 (x:Nat))=u8s (l.set i x):=by simp [u8s]
theorem ze9 (n k i:Nat) (h:i<k):((leP n i++List.replicate (k-i) 0).set i (n/256^i%256))=leP n (i+1)++List.replicate (k-(i+1)) 0:=by
 rw [show k-i=(k-(i+1))+1 by omega,List.replicate_succ,List.set_append_right _ _ (by rw [zy]; omega),zy,Nat.sub_self,List.set_cons_zero,Yb,List.append_assoc]; rfl
theorem zir (n k:Nat) (w:World) (hn:n<18446744073709551616) (hk:k≤8):Calls Tryz.prog 123 #[.int .u64 (n:Nat),.int .i64 (k:Nat)] w fun e w'=>e = .returned (.string (zg (leP n k)))∧Upd [] w w':=by
 have hmk:=fun w=>run_make_row' (P:=Tryz.prog) 97 5 (.int .u8 0) 1 Tryz.underlying97 zhb rfl .i64 .i64 k (by omega) (by omega) (w:=w);have hmx:max (0:Int) (min (k:Int) 8)=(k:Int):=by omega
 rw [← hmx] at hmk;have hk8:(k:Int)≤8:=by omega
 have hk0:(0:Int)≤(k:Int):=by omega
 have HX:=Hi hmx;clear hmx;go_enter Tryz.func123,Tryz.ntmps123;go_wp2;have hB0:Blk (w.alloc (.cells (madeCells #[.int .u8 0] k) 5)) w.heap.size (u8s (leP n 0++List.replicate (k-0) 0)) 5:=by
  have:=heap_alloc_new w (.cells (madeCells #[.int .u8 0] k) 5);unfold Blk;rw [this]
  congr 2
  apply Array.ext
  · simp [madeCells,u8s,leP]
  · intro j h1 h2;simp [madeCells,u8s,leP,Nat.mod_one]
 have hU0:Upd [] w (w.alloc (.cells (madeCells #[.int .u8 0] k) 5)):=(Upd.refl [] w).alloc _;generalize w.alloc (.cells (madeCells #[.int .u8 0] k) 5)=w0 at *;obtain ⟨b0,hb0⟩ : ∃ b0,w.heap.size=b0:=⟨_,rfl⟩;rw [hb0] at hB0 ⊢;have HB:=Hi (show w.heap.size≤b0 by omega);clear hb0 hmk;go_loopg [13] k (fun g s13 wr => ∃ i,i≤k∧g=k-i∧s13 = .int .i64 (i:Nat)∧Blk wr b0 (u8s (leP n i++List.replicate (k-i) 0)) 5∧Upd [] w wr)
 case atStart=>exact ⟨0,by omega,rfl,rfl,hB0,hU0⟩
 case round =>
  obtain ⟨i,hi,rfl,rfl,hB,hU⟩:=hrel;clear hB0 hU0;by_cases hc9:i<k
  · have hcz:(i:Int)<(k:Int):=(by omega);have HST:=Hi (ze9 n k i hc9);have hlen:(leP n i++List.replicate (k-i) 0).length=k:=(by rw [List.length_append,zy,List.length_replicate]; omega);obtain ⟨q,hq⟩ : ∃ q,q=n/256^i%256:=⟨_,rfl⟩;rw [← hq] at HST;have hdv:(n:Int)/2^(8*i)%256=(q:Int):=(by rw [hq,← ziE]; simp);clear hq;generalize leP n i++List.replicate (k-i) 0=L at *;have c1:=hB.cell i (v := .int .u8 ((L[i]'(by omega):Nat):Int)) (by rw [u8s]; simp [hlen,hc9]);have f1:=hB.frz i;generalize L[i]'(by omega)=old at *;have HLN:=Hi hlen;clear hlen;go_wp2;go_roundg (k-(i+1))
    · exact ⟨i+1,by omega,rfl,by first | rfl | go_num,by rw [← HST.out,← zhV]; exact hB.set i _,hU.setCell (.inr HB.out) _⟩
    · omega
  · have hcz : ¬ (i:Int)<(k:Int):=(by omega);have h9:i=k:=(by omega);subst h9;rw [Nat.sub_self,List.replicate_zero,List.append_nil] at hB;have hcv2:=hB.conv (P:=Tryz.prog) (c:=i) (zy i n) Tryz.underlying97 Tryz.underlying5 Tryz.underlying9;go_wp2;go_ret;exact ⟨rfl,hU⟩
theorem zaF (n k:Nat) (w:World) (hn:n<18446744073709551616) (hk:k≤8):Calls Tryz.prog 22 #[.int .u64 (n:Nat),.int .i64 (k:Nat)] w fun e w'=>e = .returned (.string (zg (leP n k)))∧Upd [] w w':=by
 have hk8:(k:Int)≤8:=by omega
 have hk0:(0:Int)≤(k:Int):=by omega
 go_enter Tryz.func22,Tryz.ntmps22;go_wp2;go_loopg [0,5,6] k (fun g s0 s5 s6 wr => ∃ i m,i≤k∧g=k-i∧s6 = .int .i64 (i:Nat)∧s0 = .int .u64 (m:Nat)∧m<18446744073709551616∧Hid (m=n/256^i)∧s5 = .string (zg (leP n i))∧Upd [] w wr)
 case atStart=>exact ⟨0,n,by omega,rfl,rfl,rfl,hn,Hi (by simp),rfl,Upd.refl _ _⟩
 case round =>
  obtain ⟨i,m,hi,rfl,rfl,rfl,hm,HM,rfl,hU⟩:=hrel;by_cases hc9:i<k
  · have hcz:(i:Int)<(k:Int):=(by omega);have hcy:(i:Int)<8:=(by omega);have HST:Hid (leP n (i+1)=leP n i++[m%256]):=Hi (by rw [Yb,HM.out]);have HD:Hid (m/256=n/256^(i+1)):=Hi (by rw [HM.out,Nat.div_div_eq_div_mul,Nat.pow_succ]);obtain ⟨q,hq⟩ : ∃ q,q=m%256:=⟨_,rfl⟩;rw [← hq] at HST;have z1:(m:Int)%256=(q:Int):=(by omega);have hcv:(convert 97 9 (.slice (some ⟨wr.heap.size,0,none⟩) 1 1)).run Tryz.prog (wr.alloc (.cells #[.int .u8 (q:Nat)] 5)) = .ok (.string (zg [q])) (wr.alloc (.cells #[.int .u8 (q:Nat)] 5)):=by
     exact (Blk.new wr (u8s [q]) 5).conv (P:=Tryz.prog) (n:=1) (c:=1) rfl Tryz.underlying97 Tryz.underlying5 Tryz.underlying9
    have hm2:m/256<18446744073709551616:=(by omega);have HA:=Hi (zI (leP n i) [q]);have hz1:(zg (leP n i)).size=i:=(by rw [zk,zy]);have hz2:(zg [q]).size=1:=zk _;clear HM hq;go_wp2;go_roundg (k-(i+1))
    · exact ⟨i+1,m/256,by omega,rfl,by first | rfl | go_num,by simp,hm2,HD,by rw [HST.out,← HA.out],hU.alloc _⟩
    · omega
  · have hcz : ¬ (i:Int)<(k:Int):=(by omega);have h9:i=k:=(by omega);subst h9;go_wp2;go_ret;exact ⟨rfl,hU⟩
def YW (s:ByteArray) (k:Nat):Value:=if k≤s.size then .tuple #[.int .u64 (leG ((zf s).take k):Nat),.bool true] else .tuple #[.int .u64 0,.bool false]
theorem ziU (s:ByteArray) (k:Nat) (w:World) (hs:s.size≤1000000) (hk:k≤8):Calls Tryz.prog 193 #[.string s,.int .i64 (k:Nat)] w fun e w'=>e = .returned (YW s k)∧Upd [] w w':=by
 have hk8:(k:Int)≤8:=by omega
 have hk0:(0:Int)≤(k:Int):=by omega
 by_cases hc:k≤s.size
 · have HV:Hid (YW s k = .tuple #[.int .u64 (leG ((zf s).take k):Nat),.bool true]):=Hi (if_pos hc);have hcz:(k:Int)≤(s.size:Int):=(by omega);go_enter Tryz.func193,Tryz.ntmps193;go_wp2;go_loopg [4,20] k (fun g s4 s20 wr => ∃ i m,i≤k∧g=k-i∧s20 = .int .i64 (i:Nat)∧s4 = .int .u64 (m:Nat)∧m<256^i∧Hid (m=leG ((zf s).take i))∧Upd [] w wr)
   case atStart=>exact ⟨0,0,by omega,rfl,rfl,rfl,by simp,Hi (by simp [leG]),Upd.refl _ _⟩
   case round =>
    obtain ⟨i,m,hi,rfl,rfl,rfl,hm,HM,hU⟩:=hrel;by_cases hc9:i<k
    · have hcz2:(i:Int)<(k:Int):=(by omega);have hcs:i<s.size:=(by omega);have hbl:s[i].toNat<256:=s[i].toNat_lt;have HO:=Hi (zjQ m s[i].toNat i hm hbl (by omega));have HO2:Hid (bits BinOp.or IntKind.u64 (m:Int) (IntKind.u64.wrap ((s[i].toNat:Int)*2^(8*i)))=((m+256^i*s[i].toNat:Nat):Int)):=Hi (by
       have:=HO.out;rwa [show IntKind.u64.wrap (s[i].toNat:Int)=(s[i].toNat:Int) from IntWalk.u64_in _ (by omega)] at this)
      have HN:Hid (m+256^i*s[i].toNat<256^(i+1)):=Hi (by
       have h1:256^i*s[i].toNat≤256^i*255:=Nat.mul_le_mul_left _ (by omega);rw [Nat.pow_succ]; omega)
      have HG:Hid (m+256^i*s[i].toNat=leG ((zf s).take (i+1))):=Hi (by
       rw [List.take_succ_eq_append_getElem (by rw [zi]; exact hcs),zhZ,← HM.out,xd s i hcs,List.length_take,zi,Nat.min_eq_left (by omega)])
      have HM1:=Hi hm;clear HM hm;go_wp2;go_roundg (k-(i+1))
      · exact ⟨i+1,m+256^i*s[i].toNat,by omega,rfl,by first | rfl | go_num,by first | rw [HO.out] | rw [HO2.out],HN.out,HG,hU⟩
      · omega
    · have hcz : ¬ (i:Int)<(k:Int):=(by omega);have h9:i=k:=(by omega);subst h9;go_wp2
      go_ret2
      exact ⟨by rw [HV.out,HM.out]; rfl,hU⟩
 · have HV:Hid (YW s k = .tuple #[.int .u64 0,.bool false]):=Hi (if_neg hc);go_enter Tryz.func193,Tryz.ntmps193;go_wp2
   go_ret2
   exact ⟨by rw [HV.out]; rfl,Upd.refl _ _⟩
theorem zhC (s:ByteArray) (k:Nat) (w:World) (hs:s.size≤1000000) (hk:k≤8):Calls Tryz.prog 178 #[.string s,.int .i64 (k:Nat)] w fun e w'=>e = .returned (YW s k)∧Upd [] w w':=by
 have hk8:(k:Int)≤8:=by omega
 have hk0:(0:Int)≤(k:Int):=by omega
 by_cases hc:k≤s.size
 · have HV:Hid (YW s k = .tuple #[.int .u64 (leG ((zf s).take k):Nat),.bool true]):=Hi (if_pos hc);have hcz:(k:Int)≤(s.size:Int):=(by omega);go_enter Tryz.func178,Tryz.ntmps178;go_wp2;go_loopg [6,7] (0+k) (fun g s6 s7 wr => ∃ i m,i≤k∧g=0+i∧s7 = .int .i64 ((i:Nat)-1)∧s6 = .int .u64 (m:Nat)∧m<256^(k-i)∧Hid (m=leG (((zf s).take k).drop i))∧Upd [] w wr)
   case atStart=>exact ⟨k,0,by omega,rfl,rfl,rfl,by simp,Hi (by rw [List.drop_of_length_le (by rw [List.length_take]; omega)]; rfl),Upd.refl _ _⟩
   case round =>
    obtain ⟨i,m,hi,rfl,rfl,rfl,hm,HM,hU⟩:=hrel;by_cases hc9:0<i
    · have hcz2:(0:Int)≤(i:Int)-1:=(by omega);obtain ⟨j,rfl⟩ : ∃ j,i=j+1:=⟨i-1,by omega⟩;have hcs:j<s.size:=(by omega);have hbl:s[j].toNat<256:=s[j].toNat_lt;have h7:256^(k-(j+1))≤256^7:=Nat.pow_le_pow_right (by omega) (by omega);have HW:Hid (IntKind.u64.wrap (IntKind.u64.wrap (256*(m:Int))+(s[j].toNat:Int))=((s[j].toNat+256*m:Nat):Int)):=Hi (by
       rw [show IntKind.u64.wrap (256*(m:Int))=256*(m:Int) from IntWalk.u64_in _ (by omega),IntWalk.u64_in _ (by omega)]; omega)
      have HN:Hid (s[j].toNat+256*m<256^(k-j)):=Hi (by
       rw [show k-j=(k-(j+1))+1 by omega,Nat.pow_succ]; omega)
      have HG:Hid (s[j].toNat+256*m=leG (((zf s).take k).drop j)):=Hi (by
       have hl:j<((zf s).take k).length:=(by rw [List.length_take,zi]; omega);rw [List.drop_eq_getElem_cons hl,leG,← HM.out,List.getElem_take,xd s j hcs])
      clear HM hm h7;go_wp2;go_roundg (0+j)
      · exact ⟨j,s[j].toNat+256*m,by omega,rfl,by first | rfl | go_num,by rw [HW.out],HN.out,HG,hU⟩
      · omega
    · have hcz2 : ¬ (0:Int)≤(i:Int)-1:=(by omega);have h9:i=0:=(by omega);subst h9;go_wp2
      go_ret2
      exact ⟨by rw [HV.out,HM.out]; rfl,hU⟩
 · have HV:Hid (YW s k = .tuple #[.int .u64 0,.bool false]):=Hi (if_neg hc);go_enter Tryz.func178,Tryz.ntmps178;go_wp2
   go_ret2
   exact ⟨by rw [HV.out]; rfl,Upd.refl _ _⟩
end Go.Proofs.YtfkenhihcmmgkaaGreatDoor
