/- Package field: plain: numbers as bytes, a reader. -/
import Derived.Test.YtfkcdnaghndgfaaGreatDoorQAA
import Derived.Test.YtfkcdnaghndgfaaGreatDoorQAR
import Derived.Test.YtfkcdnaghndgfaaGreatDoorQAO
import Derived.Test.YtfkcdnaghndgfaaGreatDoorQAM
set_option linter.unusedVariables false
set_option linter.unusedSimpArgs false
set_option linter.unusedSectionVars false
namespace Go.Proofs.YtfkcdnaghndgfaaGreatDoor
open Go.RowKit
def leP:Nat→Nat→List Nat
 | _,0=>[]
 | n,k+1=>n%256::leP (n/256) k
def leG:List Nat→Nat
 | []=>0
 | x::t=>x+256*leG t
theorem yH : ∀ (k n:Nat),(leP n k).length=k
 | 0,_=>rfl
 | k+1,n=>by rw [leP,List.length_cons,yH k]
theorem zcx : ∀ (k n:Nat),∀ x∈leP n k,x<256
 | 0,_=>by intro x hx; simp [leP] at hx
 | k+1,n=>by
   intro x hx
   rw [leP] at hx
   rcases List.mem_cons.1 hx with h | h
   · omega
   · exact zcx k _ x h
theorem WC : ∀ (k n:Nat),leP n (k+1)=leP n k++[n/256^k%256]
 | 0,n=>by simp [leP]
 | k+1,n=>by
   rw [leP,WC k (n/256),leP,List.cons_append,Nat.div_div_eq_div_mul,Nat.pow_succ,Nat.mul_comm 256]
theorem ZY : ∀ (a b:List Nat),leG (a++b)=leG a+256^a.length*leG b
 | [],b=>by simp [leG]
 | x::t,b=>by
   rw [List.cons_append,leG,ZY t b,leG,List.length_cons,Nat.pow_succ,Nat.mul_comm (256^t.length) 256,Nat.mul_add,Nat.mul_assoc]; omega
theorem zfP (a:List Nat) (x:Nat):leG (a++[x])=leG a+256^a.length*x:=by rw [ZY]; simp [leG]
theorem zbG : ∀ (l:List Nat),(∀ x∈l,x<256)→leG l<256^l.length
 | [],_=>by simp [leG]
 | x::t,h=>by
   have h1:=h x (by simp)
   have h2:=zbG t fun y hy=>h y (by simp [hy])
   rw [leG,List.length_cons,Nat.pow_succ]; omega
theorem Kk : ∀ (l:List Nat),(∀ x∈l,x<256)→leP (leG l) l.length=l
 | [],_=>rfl
 | x::t,h=>by
   have h1:=h x (by simp)
   have h2:=Kk t fun y hy=>h y (by simp [hy])
   rw [leG,List.length_cons,leP,show (x+256*leG t)%256=x by omega,show (x+256*leG t)/256=leG t by omega,h2]
structure RS where
 s:ByteArray
 p:Nat
 bad:Bool
def RS.cells (r:RS):List Value:=[.string r.s,.int .i64 (r.p:Nat),.bool r.bad]
def RS.l (r:RS):List Nat:=za r.s
def RS.text (r:RS) (n:Nat):List Nat×RS :=
 if r.bad=true then ([],r) else if r.s.size-r.p<n then ([],⟨r.s,r.p,true⟩) else ((r.l.drop r.p).take n,⟨r.s,r.p+n,false⟩)
def RS.num (r:RS) (k:Nat):Nat×RS:=(leG (r.text k).1,(r.text k).2)
def RS.Ok (r:RS):Prop:=r.p≤r.s.size
theorem RS.text_ok {r:RS} (h:r.Ok) (n:Nat):(r.text n).2.Ok:=by
 unfold RS.text RS.Ok at *
 repeat' split
 all_goals (dsimp only; omega)
theorem RS.text_s (r:RS) (n:Nat):(r.text n).2.s=r.s:=by
 unfold RS.text
 repeat' split
 all_goals rfl
theorem RS.num_ok {r:RS} (h:r.Ok) (n:Nat):(r.num n).2.Ok:=RS.text_ok h n
theorem RS.num_s (r:RS) (n:Nat):(r.num n).2.s=r.s:=RS.text_s r n
theorem RS.text_lt (r:RS) (n:Nat) : ∀ x∈(r.text n).1,x<256:=by
 unfold RS.text
 repeat' split
 all_goals first
  | (intro x hx; simp at hx; done)
  | exact fun x hx=>zV r.s x (List.mem_of_mem_drop (List.mem_of_mem_take hx))
theorem RS.text_len (r:RS) (n:Nat):(r.text n).1.length≤n:=by
 unfold RS.text
 repeat' split
 all_goals (simp; try omega)
theorem RS.num_lt (r:RS) (k:Nat):(r.num k).1<256^k:=by
 refine Nat.lt_of_lt_of_le (zbG _ (r.text_lt k)) (Nat.pow_le_pow_right (by omega) (r.text_len k))
theorem RS.text_bad {r:RS} (h:r.bad=true) (n:Nat):r.text n=([],r):=by unfold RS.text; rw [if_pos h]
theorem RS.text_short {s:ByteArray} {p:Nat} (n:Nat) (h:s.size-p<n):(⟨s,p,false⟩:RS).text n=([],⟨s,p,true⟩):=by
 unfold RS.text; rw [if_neg (by simp),if_pos h]
theorem RS.text_fine {s:ByteArray} {p:Nat} (n:Nat) (h:n≤s.size-p):(⟨s,p,false⟩:RS).text n=(((za s).drop p).take n,⟨s,p+n,false⟩):=by
 unfold RS.text; rw [if_neg (by simp),if_neg (by dsimp only; omega)]; rfl
theorem RS.text_isbad {r:RS} (h:r.bad=true) (n:Nat):(r.text n).2.bad=true:=by rw [RS.text_bad h]; exact h
theorem RS.text_all (r:RS) (n:Nat) (h:(r.text n).2.bad=false):r.bad=false∧n≤r.s.size-r.p∧r.text n=((r.l.drop r.p).take n,⟨r.s,r.p+n,false⟩):=by
 unfold RS.text at h ⊢
 split at h
 · rename_i h1; dsimp only at h; rw [h1] at h; cases h
 · rename_i h1
   split at h
   · cases h
   · rename_i h2
     exact ⟨by simpa using h1,by omega,by rw [if_neg h1,if_neg h2]⟩
theorem RS.text_not (r:RS) (n:Nat) (h:r.s.size<r.p+n) (hp:r.p≤r.s.size):(r.text n).2.bad=true:=by
 cases hb:(r.text n).2.bad with
 | true=>rfl
 | false=>have:=RS.text_all r n hb; omega
end Go.Proofs.YtfkcdnaghndgfaaGreatDoor
namespace Go.Proofs.YtfkcdnaghndgfaaGreatDoor
open Go.RowKit
def gN (s:ByteArray) (i k:Nat):Nat:=leG (((za s).drop i).take k)
theorem zgw (s:ByteArray) (i k:Nat):gN s i k<256^k:=by
 unfold gN
 refine Nat.lt_of_lt_of_le (zbG _ fun x hx=>zV s x (List.mem_of_mem_drop (List.mem_of_mem_take hx))) (Nat.pow_le_pow_right (by omega) ?_)
 rw [List.length_take]; omega
theorem yv {s:ByteArray} {p:Nat} (k:Nat) (h:p+k≤s.size):(⟨s,p,false⟩:RS).num k=(gN s p k,⟨s,p+k,false⟩):=by
 unfold RS.num; rw [RS.text_fine k (by omega)]; rfl
theorem qW (r:RS) (k:Nat) (h:(r.num k).2.bad=false) (hp:r.p≤r.s.size):r.bad=false∧r.p+k≤r.s.size∧r.num k=(gN r.s r.p k,⟨r.s,r.p+k,false⟩):=by
 obtain ⟨a,b,c⟩:=RS.text_all r k h
 refine ⟨a,by omega,?_⟩
 unfold RS.num; rw [c]; rfl
structure HdD where
 beg:Nat
 flags:Nat
 m:Nat
 t:Nat
 sum:Nat
 l:Nat
 wh:Nat
 name:List Nat
def hdP (r:RS):HdD×RS :=
 let a:=r.num 4
 let b:=a.2.num 2
 let f:=b.2.num 2
 let m:=f.2.num 2
 let t:=m.2.num 4
 let u:=t.2.num 4
 let l:=u.2.num 4
 let wh:=l.2.num 4
 let n:=wh.2.num 2
 let mo:=n.2.num 2
 let nm:=mo.2.text n.1
 let sk:=nm.2.text mo.1
 (⟨a.1,f.1,m.1,t.1,u.1,l.1,wh.1,nm.1⟩,sk.2)
def qZ (s:ByteArray):Nat:=30+gN s 26 2+gN s 28 2
theorem zaG (s:ByteArray) (h30:30≤s.size) (h:qZ s≤s.size) :
 hdP ⟨s,0,false⟩=(⟨gN s 0 4,gN s 6 2,gN s 8 2,gN s 10 4,gN s 14 4,gN s 18 4,gN s 22 4,((za s).drop 30).take (gN s 26 2)⟩,⟨s,qZ s,false⟩):=by
 unfold qZ at h ⊢
 unfold hdP
 simp only [yv 4 (show 0+4≤s.size by omega),yv 2 (show 4+2≤s.size by omega),yv 2 (show 6+2≤s.size by omega),yv 2 (show 8+2≤s.size by omega),yv 4 (show 10+4≤s.size by omega),yv 4 (show 14+4≤s.size by omega),yv 4 (show 18+4≤s.size by omega),yv 4 (show 22+4≤s.size by omega),yv 2 (show 26+2≤s.size by omega),yv 2 (show 28+2≤s.size by omega),Nat.zero_add,Nat.reduceAdd]
 rw [RS.text_fine _ (by omega)]
 dsimp only
 rw [RS.text_fine _ (by omega)]
theorem zhI (s:ByteArray) (h:s.size<30∨s.size<qZ s):(hdP ⟨s,0,false⟩).2.bad=true:=by
 cases hb:(hdP ⟨s,0,false⟩).2.bad with
 | true=>rfl
 | false =>
   exfalso
   unfold qZ at h
   unfold hdP at hb
   dsimp only at hb
   have o0:(⟨s,0,false⟩:RS).Ok:=Nat.zero_le _
   have o1:=RS.num_ok o0 4
   have o2:=RS.num_ok o1 2
   have o3:=RS.num_ok o2 2
   have o4:=RS.num_ok o3 2
   have o5:=RS.num_ok o4 4
   have o6:=RS.num_ok o5 4
   have o7:=RS.num_ok o6 4
   have o8:=RS.num_ok o7 4
   have o9:=RS.num_ok o8 2
   have o10:=RS.num_ok o9 2
   obtain ⟨b1,l1,e1⟩:=RS.text_all _ _ hb
   obtain ⟨b2,l2,e2⟩:=RS.text_all _ _ b1
   obtain ⟨b3,l3,e3⟩:=qW _ _ b2 o9
   obtain ⟨b4,l4,e4⟩:=qW _ _ b3 o8
   obtain ⟨b5,l5,e5⟩:=qW _ _ b4 o7
   obtain ⟨b6,l6,e6⟩:=qW _ _ b5 o6
   obtain ⟨b7,l7,e7⟩:=qW _ _ b6 o5
   obtain ⟨b8,l8,e8⟩:=qW _ _ b7 o4
   obtain ⟨b9,l9,e9⟩:=qW _ _ b8 o3
   obtain ⟨b10,l10,e10⟩:=qW _ _ b9 o2
   obtain ⟨b11,l11,e11⟩:=qW _ _ b10 o1
   obtain ⟨b12,l12,e12⟩:=qW _ _ b11 o0
   clear b1 b2 b3 b4 b5 b6 b7 b8 b9 b10 b11 b12 o0 o1 o2 o3 o4 o5 o6 o7 o8 o9 o10 hb
   simp only [e12,Nat.zero_add,Nat.reduceAdd] at e11 l11 e10 l10 e9 l9 e8 l8 e7 l7 e6 l6 e5 l5 e4 l4 e3 l3 e2 l2 e1 l1
   simp only [e11,Nat.zero_add,Nat.reduceAdd] at e10 l10 e9 l9 e8 l8 e7 l7 e6 l6 e5 l5 e4 l4 e3 l3 e2 l2 e1 l1
   simp only [e10,Nat.zero_add,Nat.reduceAdd] at e9 l9 e8 l8 e7 l7 e6 l6 e5 l5 e4 l4 e3 l3 e2 l2 e1 l1
   simp only [e9,Nat.zero_add,Nat.reduceAdd] at e8 l8 e7 l7 e6 l6 e5 l5 e4 l4 e3 l3 e2 l2 e1 l1
   simp only [e8,Nat.zero_add,Nat.reduceAdd] at e7 l7 e6 l6 e5 l5 e4 l4 e3 l3 e2 l2 e1 l1
   simp only [e7,Nat.zero_add,Nat.reduceAdd] at e6 l6 e5 l5 e4 l4 e3 l3 e2 l2 e1 l1
   simp only [e6,Nat.zero_add,Nat.reduceAdd] at e5 l5 e4 l4 e3 l3 e2 l2 e1 l1
   simp only [e5,Nat.zero_add,Nat.reduceAdd] at e4 l4 e3 l3 e2 l2 e1 l1
   simp only [e4,Nat.zero_add,Nat.reduceAdd] at e3 l3 e2 l2 e1 l1
   simp only [e3,Nat.zero_add,Nat.reduceAdd] at e2 l2 e1 l1
   rw [e2] at l1
   dsimp only at l1
   omega
end Go.Proofs.YtfkcdnaghndgfaaGreatDoor
namespace Go.Proofs.YtfkcdnaghndgfaaGreatDoor
open Go.RowKit
def vB (r:RecD):List Nat:=[80,75,3,4,20,0,0,8]++(leP r.m.toNat 2++(leP r.t 4++(leP r.sum 4++(leP r.l.toNat 4++(leP r.wh.toNat 4++(leP (zJ r.k r.p).length 2++([0,0]++zJ r.k r.p)))))))
def KG (r:RecD):List Nat:=if yF r=0 then vB r else []
theorem VA (r:RecD):(vB r).length=30+(zJ r.k r.p).length:=by simp [vB,yH]; omega
theorem zfV (r:RecD) : ∀ x∈vB r,x<256:=by
 intro x hx
 simp only [vB,List.mem_append] at hx
 rcases hx with h | h | h | h | h | h | h | h | h
 · simp at h; omega
 all_goals first
  | exact zcx _ _ x h
  | exact jR _ _ x h
  | (simp at h; omega)
def qk:RecD:=⟨.empty,0,0,0,0,0,0,0,0⟩
def zfJ (h:HdD) (a:Nat):RecD:=⟨zd (zR h.name).1,h.m,h.sum,h.l,h.wh,((zR h.name).2.1:Nat),0,h.t,a⟩
def yk (h:HdD):Bool:=(decide (h.beg=67324752)&&(decide (h.flags=2048)||decide (h.flags=2056))&&(decide (h.m=0)||decide (h.m=8)))&&(decide (h.flags=2048)||(decide (h.sum=0)&&decide (h.l=0)&&decide (h.wh=0)))
def Xy (x:ByteArray) (a:Nat):RecD×Nat×Bool×Nat :=
 if x.size<30∨x.size<qZ x then (qk,0,false,3)
 else if yk (hdP ⟨x,0,false⟩).1=false then (qk,0,false,2)
 else if (zR (hdP ⟨x,0,false⟩).1.name).2.2=false then (qk,0,false,5)
 else if xk ((zR (hdP ⟨x,0,false⟩).1.name).2.1:Nat) (hdP ⟨x,0,false⟩).1.t=false then (qk,0,false,13)
 else (zfJ (hdP ⟨x,0,false⟩).1 a,qZ x,decide ((hdP ⟨x,0,false⟩).1.flags=2056),0)
def zh (s:ByteArray) (a:Int):RecD×Nat×Bool×Nat :=
 if a<0∨(s.size:Int)<a then (qk,0,false,3) else Xy (s.extract a.toNat s.size) a.toNat
theorem Qk {r:RecD} (h:yF r=0):jL r=true∧xK r=true ∧ ¬ (r.md<0∨511<r.md)∧xk r.k r.t=true:=by
 unfold yF at h
 split at h
 · cases h
 rename_i h1
 split at h
 · cases h
 rename_i h2
 split at h
 · cases h
 rename_i h3
 split at h
 · cases h
 rename_i h4
 exact ⟨by simpa using h1,by simpa using h2,h3,by simpa using h4⟩
theorem QU {n:Int} (h:ya n=true):0≤n∧n<2147483648:=by
 unfold ya at h
 rw [Bool.and_eq_true,decide_eq_true_eq,decide_eq_true_eq] at h; exact h
theorem za4 {r:RecD} (h:xK r=true):(r.m=0∨r.m=8)∧(0≤r.l∧r.l<2147483648)∧(0≤r.wh∧r.wh<2147483648)∧(0≤r.pos∧r.pos<2147483648):=by
 unfold xK at h
 split at h
 · cases h
 rename_i h1
 have hm:r.m=0∨r.m=8:=by
  by_cases h0:r.m=0
  · exact .inl h0
  · by_cases h8:r.m=8
    · exact .inr h8
    · exact absurd (.inl ⟨h0,h8⟩) h1
 refine ⟨hm,?_,?_,?_⟩
 · exact QU (by cases hb:ya r.l with | true=>rfl | false=>exact absurd (.inr (.inl hb)) h1)
 · exact QU (by cases hb:ya r.wh with | true=>rfl | false=>exact absurd (.inr (.inr (.inl hb))) h1)
 · exact QU (by cases hb:ya r.pos with | true=>rfl | false=>exact absurd (.inr (.inr (.inr hb))) h1)
theorem zio (r:RS):(hdP r).1.beg<4294967296∧(hdP r).1.flags<65536∧(hdP r).1.m<65536∧(hdP r).1.t<4294967296∧(hdP r).1.sum<4294967296∧(hdP r).1.l<4294967296∧(hdP r).1.wh<4294967296∧(∀ x∈(hdP r).1.name,x<256)∧(hdP r).1.name.length≤65535:=by
 unfold hdP
 dsimp only
 refine ⟨RS.num_lt _ 4,RS.num_lt _ 2,RS.num_lt _ 2,RS.num_lt _ 4,RS.num_lt _ 4,RS.num_lt _ 4,RS.num_lt _ 4,RS.text_lt _ _,?_⟩
 refine Nat.le_trans (RS.text_len _ _) ?_
 have:=RS.num_lt ((((((((r.num 4).2.num 2).2.num 2).2.num 2).2.num 4).2.num 4).2.num 4).2.num 4).2 2
 omega
end Go.Proofs.YtfkcdnaghndgfaaGreatDoor
namespace Go.Proofs.YtfkcdnaghndgfaaGreatDoor
open Go.RowKit
def xV (x:ByteArray):Nat×Nat×Nat×Nat×Bool :=
 if x.size<12∨(gN x 0 4=134695760∧x.size<16) then (0,0,0,0,false)
 else if gN x 0 4=134695760 then (gN x 4 4,gN x 8 4,gN x 12 4,16,true) else (gN x 0 4,gN x 4 4,gN x 8 4,12,true)
def yY (s:ByteArray) (a:Int):Nat×Nat×Nat×Nat×Bool:=if a<0∨(s.size:Int)<a then (0,0,0,0,false) else xV (s.extract a.toNat s.size)
end Go.Proofs.YtfkcdnaghndgfaaGreatDoor
namespace Go.Proofs.YtfkcdnaghndgfaaGreatDoor
def yI (x:Nat):Nat:=if x%2=1 then (x/2) ^^^ 3988292384 else x/2
def jZ:Nat→Nat→Nat
 | 0,x=>x
 | k+1,x=>jZ k (yI x)
def qK (s b:Nat):Nat:=if (s+b)%2=1 then (s/2) ^^^ 3988292384 else s/2
def zd5:Nat→Nat→Nat→Nat
 | 0,s,_=>s
 | k+1,s,n=>zd5 k (qK s (n%2)) (n/2)
def qb (s b:Nat):Nat:=jZ 8 (s ^^^ b)
def yQ (s:Nat) (l:List Nat):Nat:=l.foldl qb s
theorem zc9 (a b:Nat):(a ^^^ b)%2=(a+b)%2:=by
 have h:=Nat.xor_mod_two_pow (a:=a) (b:=b) (n:=1)
 rw [Nat.pow_one] at h
 rw [h]
 rcases (by omega:a%2=0∨a%2=1) with h1 | h1<;>rcases (by omega:b%2=0∨b%2=1) with h2 | h2<;>rw [h1,h2]<;>simp<;>omega
theorem zaC (a b:Nat):(a ^^^ b)/2=(a/2) ^^^ (b/2):=by
 rw [Nat.xor_div_two]
theorem Yt {x:Nat} (h:x<4294967296):yI x<4294967296:=by
 unfold yI
 split
 · exact Nat.xor_lt_two_pow (n:=32) (by omega) (by omega)
 · omega
theorem VY : ∀ (k:Nat) {x:Nat},x<4294967296→jZ k x<4294967296
 | 0,_,h=>h
 | k+1,_,h=>VY k (Yt h)
theorem zeG (s n:Nat):qK s (n%2) ^^^ (n/2)=yI (s ^^^ n):=by
 unfold qK yI
 rw [zc9,zaC,show (s+n%2)%2=(s+n)%2 by omega]
 split
 · rw [Nat.xor_assoc,Nat.xor_comm 3988292384,← Nat.xor_assoc]
 · rfl
theorem zcO : ∀ (k s n:Nat),n<2^k→zd5 k s n=jZ k (s ^^^ n)
 | 0,s,n,h=>by
   have:n=0:=by simpa using h
   subst this
   show s=s ^^^ 0
   rw [Nat.xor_zero]
 | k+1,s,n,h=>by
   show zd5 k (qK s (n%2)) (n/2)=jZ k (yI (s ^^^ n))
   rw [zcO k _ _ (by rw [Nat.pow_succ] at h; omega),zeG]
theorem YM (x z:Nat):yI (x ^^^ (2*z))=yI x ^^^ z:=by
 unfold yI
 rw [zc9,zaC,show (x+2*z)%2=x%2 by omega,show 2*z/2=z by omega]
 split
 · rw [Nat.xor_assoc,Nat.xor_comm z,← Nat.xor_assoc]
 · rfl
theorem VV : ∀ (k x y:Nat),jZ k (x ^^^ (2^k*y))=jZ k x ^^^ y
 | 0,x,y=>by simp [jZ]
 | k+1,x,y=>by
   show jZ k (yI (x ^^^ (2^(k+1)*y)))=jZ k (yI x) ^^^ y
   rw [show 2^(k+1)*y=2*(2^k*y) by rw [Nat.pow_succ,Nat.mul_comm (2^k) 2,Nat.mul_assoc],YM,VV k]
theorem zdD (s:Nat):(s%256) ^^^ (2^8*(s/256))=s:=by
 apply Nat.eq_of_testBit_eq
 intro i
 have h:=Nat.testBit_two_pow_mul_add (s/256) (i:=8) (b:=s%256) (by omega) i
 rw [show 2^8*(s/256)+s%256=s by omega] at h
 rw [Nat.testBit_xor,Nat.testBit_two_pow_mul,h]
 by_cases hi:i<8
 · rw [decide_eq_false (show ¬ i≥8 by omega),if_pos hi]; simp
 · have h0:(s%256).testBit i=false:=Nat.testBit_lt_two_pow (Nat.lt_of_lt_of_le (Nat.mod_lt s (by omega)) (show 256≤2^i from Nat.pow_le_pow_right (n:=2) (by omega) (show 8≤i by omega)))
   rw [decide_eq_true (show i≥8 by omega),if_neg hi,h0]; simp
theorem zeI (s b:Nat):jZ 8 ((s%256) ^^^ b) ^^^ (s/256)=qb s b:=by
 unfold qb
 have e:s ^^^ b=((s%256) ^^^ b) ^^^ (2^8*(s/256)):=by
  rw [Nat.xor_assoc,Nat.xor_comm b,← Nat.xor_assoc,zdD]
 rw [e,VV]
theorem Js {s b:Nat} (hs:s<4294967296) (hb:b<256):qb s b<4294967296:=VY 8 (Nat.xor_lt_two_pow (n:=32) hs (by omega))
theorem JB : ∀ (l:List Nat) {s:Nat},s<4294967296→(∀ x∈l,x<256)→yQ s l<4294967296
 | [],_,h,_=>h
 | x::l,_,h,hl=>JB l (Js h (hl x (by simp))) (fun y hy=>hl y (by simp [hy]))
theorem Qo (s:Nat) (l:List Nat) (x:Nat):yQ s (l++[x])=qb (yQ s l) x:=by simp [yQ]
def yA (s:ByteArray):Nat:=4294967295-yQ 4294967295 (za s)
end Go.Proofs.YtfkcdnaghndgfaaGreatDoor
namespace Go.Proofs.YtfkcdnaghndgfaaGreatDoor
open Go.RowKit
def ofT:Except Nat (List Nat×Nat)→ByteArray×Nat×Nat
 | .ok (out,a)=>(zd out,(a+7)/8,0)
 | .error c=>(⟨#[]⟩,0,c)
theorem zdp (r:Except Nat (List Nat×Nat)):za5 r = .tuple #[.string (ofT r).1,.int .i64 ((ofT r).2.1:Nat),.int .i64 ((ofT r).2.2:Nat)]:=by
 cases r with
 | ok x=>rfl
 | error c=>rfl
def vY (h r:RecD):Bool:=decide (h.p=r.p∧h.m=r.m∧h.k=r.k∧h.t=r.t∧h.pos=r.pos)
def qJ (s:ByteArray) (h r:RecD) (f:Int) (b:Bool):Nat×Nat :=
 if b=true then
  (if (yY s (f+r.l)).2.2.2.2=false then (0,3)
  else if (yY s (f+r.l)).1≠r.sum∨((yY s (f+r.l)).2.1:Int)≠r.l∨((yY s (f+r.l)).2.2.1:Int)≠r.wh then (0,2) else ((yY s (f+r.l)).2.2.2.1,0))
 else if h.sum≠r.sum∨h.l≠r.l∨h.wh≠r.wh then (0,2) else (0,0)
def ZH (d:ByteArray) (r:RecD):ByteArray×Nat :=
 if 65000<r.wh then (⟨#[]⟩,4) else if (d.size:Int)≠r.wh then (⟨#[]⟩,2) else if r.k=1∧yA d≠r.sum then (⟨#[]⟩,11) else (d,0)
def xg (d:ByteArray) (r:RecD):ByteArray×Nat :=
 if r.m=8 then (if (ofT (ofP d r.wh)).2.2≠0 then (⟨#[]⟩,(ofT (ofP d r.wh)).2.2) else if (ofT (ofP d r.wh)).2.1≠d.size then (⟨#[]⟩,2) else ZH (ofT (ofP d r.wh)).1 r) else ZH d r
def xE (s:ByteArray) (r:RecD):ByteArray×Int×Nat :=
 if yF r≠0 then (⟨#[]⟩,0,1)
 else if (zh s r.pos).2.2.2≠0 then (⟨#[]⟩,0,(zh s r.pos).2.2.2)
 else if vY (zh s r.pos).1 r=false then (⟨#[]⟩,0,2)
 else if (qJ s (zh s r.pos).1 r (r.pos+(zh s r.pos).2.1) (zh s r.pos).2.2.1).2≠0 then (⟨#[]⟩,0,(qJ s (zh s r.pos).1 r (r.pos+(zh s r.pos).2.1) (zh s r.pos).2.2.1).2)
 else if (s.size:Int)-(r.pos+(zh s r.pos).2.1)<r.l then (⟨#[]⟩,0,3)
 else if (xg (s.extract (r.pos+(zh s r.pos).2.1).toNat (r.pos+(zh s r.pos).2.1+r.l).toNat) r).2≠0 then (⟨#[]⟩,0,(xg (s.extract (r.pos+(zh s r.pos).2.1).toNat (r.pos+(zh s r.pos).2.1+r.l).toNat) r).2)
 else ((xg (s.extract (r.pos+(zh s r.pos).2.1).toNat (r.pos+(zh s r.pos).2.1+r.l).toNat) r).1,(zh s r.pos).2.1+r.l+(qJ s (zh s r.pos).1 r (r.pos+(zh s r.pos).2.1) (zh s r.pos).2.2.1).1,0)
def zaI (x:ByteArray×Int×Nat):Value := .tuple #[.string x.1,.int .i64 x.2.1,.int .i64 (x.2.2:Nat)]
theorem Qu {r:RecD} (h:yF r=0):(0≤r.l∧r.l<2147483648)∧(0≤r.wh∧r.wh<2147483648)∧(0≤r.pos∧r.pos<2147483648)∧(r.k=1∨r.k=2∧r.sum=0∧r.l=0∧r.wh=0∧r.m=0):=by
 obtain ⟨h1,h2,-,-⟩:=Qk h
 unfold xK at h2
 split at h2
 · cases h2
 rename_i h3
 simp only [not_or,ya,Bool.not_eq_false,Bool.and_eq_true,decide_eq_true_eq] at h3
 refine ⟨h3.2.1,h3.2.2.1,h3.2.2.2,?_⟩
 unfold jL at h1
 simp only [Bool.and_eq_true,decide_eq_true_eq] at h1
 have hk:=h1.2
 have hp:=h1.1.1
 by_cases h5:r.k=2
 · rw [if_pos h5] at h2
   simp only [Bool.and_eq_true,decide_eq_true_eq] at h2
   exact .inr ⟨h5,h2.1.1.1,h2.1.1.2,h2.1.2,h2.2⟩
 · left
   unfold zR at hk hp
   repeat' split at hk
   all_goals simp_all
   all_goals omega
theorem VN {s:ByteArray} {a:Int} (h:(zh s a).2.2.2=0):(zh s a).1.pos=a∧(zh s a).2.1≤s.size∧0≤a∧a+(zh s a).2.1≤s.size:=by
 unfold zh at h ⊢
 split at h
 · cases h
 rename_i h1
 rw [if_neg h1]
 have hz:(s.extract a.toNat s.size).size=s.size-a.toNat:=by rw [ByteArray.size_extract]; omega
 unfold Xy at h ⊢
 split at h
 · cases h
 rename_i h2
 rw [if_neg h2]
 repeat' split at h
 all_goals first | (cases h; done) | skip
 rename_i h3 h4 h5
 rw [if_neg h3,if_neg h4,if_neg h5]
 refine ⟨?_,?_,?_,?_⟩
 · show ((a.toNat:Nat):Int)=a; omega
 · show qZ _≤_; omega
 · omega
 · show a+((qZ _:Nat):Int)≤_; omega
theorem Wu (s:ByteArray) (h r:RecD) (f:Int) (b:Bool):(qJ s h r f b).1≤16:=by
 have h1:(yY s (f+r.l)).2.2.2.1≤16:=by
  unfold yY xV
  repeat' split
  all_goals (dsimp only; omega)
 unfold qJ
 repeat' split
 all_goals first | exact Nat.zero_le _ | exact h1
end Go.Proofs.YtfkcdnaghndgfaaGreatDoor
namespace Go.Proofs.YtfkcdnaghndgfaaGreatDoor
open Go.RowKit
def BackP (S X:ByteArray):Prop := ∀ most:Int,S.size≤ZV most→ofP X most = .ok (za S,8*X.size) ∨ ∃ m:Nat,ofP X most = .ok (za S,m)∧(m+7)/8=X.size
theorem BackP.val {S X:ByteArray} (h:BackP S X) (most:Int) (hm:S.size≤ZV most):za5 (ofP X most) = .tuple #[.string S,.int .i64 (X.size:Nat),.int .i64 0]:=by
 rcases h most hm with e | ⟨m,e,hx⟩
 · rw [e]
   show Value.tuple #[.string (zd (za S)),.int .i64 (((8*X.size+7)/8:Nat):Int),.int .i64 0]=_
   rw [zz,show (8*X.size+7)/8=X.size by omega]
 · rw [e]
   show Value.tuple #[.string (zd (za S)),.int .i64 (((m+7)/8:Nat):Int),.int .i64 0]=_
   rw [zz,hx]
end Go.Proofs.YtfkcdnaghndgfaaGreatDoor
namespace Go.Proofs.YtfkcdnaghndgfaaGreatDoor
open Go.RowKit
set_option maxRecDepth 100000 in
set_option maxHeartbeats 1600000 in
theorem zfs (s b:Nat) (w:World) (hs:s<4294967296) (hb:b<2):Calls Tryz.prog 147 #[.int .u32 (s:Nat),.int .u32 (b:Nat)] w fun e w'=>e = .returned (.int .u32 (qK s b:Nat))∧w=w':=by
 have hx:=ZM (s/2) 3988292384 (by omega) (by omega)
 have e1:((s/2:Nat):Int)=(s:Int)/2:=by omega
 rw [e1] at hx
 have HX:=Lib.hid hx
 clear hx e1
 by_cases h:(s+b)%2=1
 · have HB:=Lib.hid (show qK s b=(s/2) ^^^ 3988292384 from by unfold qK; rw [if_pos h])
   have t1:(((s:Int)+(b:Int))%4294967296%2==1)=true:=by simp; omega
   clear h
   go_enter Tryz.func147,Tryz.ntmps147
   go_wp2
   go_returns
   exact ⟨by rw [HB.out]; exact congrArg (fun z=>Ending.returned (.int .u32 z)) HX.out,rfl⟩
 · have HB:=Lib.hid (show qK s b=s/2 from by unfold qK; rw [if_neg h])
   have t1:(((s:Int)+(b:Int))%4294967296%2==1)=false:=by simp; omega
   clear h
   go_enter Tryz.func147,Tryz.ntmps147
   go_wp2
   go_returns
   exact ⟨by rw [HB.out]; exact congrArg (fun z=>Ending.returned (.int .u32 z)) (show (s:Int)/2=((s/2:Nat):Int) by omega),rfl⟩
theorem zfd {s b:Nat} (h:s<4294967296):qK s b<4294967296:=by
 unfold qK
 split
 · exact Nat.xor_lt_two_pow (n:=32) (by omega) (by omega)
 · omega
set_option maxRecDepth 100000 in
set_option maxHeartbeats 1600000 in
theorem zdL (s b:Nat) (w:World) (hs:s<4294967296) (hb:b<256):Calls Tryz.prog 114 #[.int .u32 (s:Nat),.int .u8 (b:Nat)] w fun e w'=>e = .returned (.int .u32 (qb s b:Nat))∧w=w':=by
 have H0:=Lib.hid (show qb s b=zd5 8 s b from (zcO 8 s b hb).symm)
 generalize qb s b=R at *
 go_enter Tryz.func114,Tryz.ntmps114
 go_wp2
 go_loopg [0,5,6] 8 (fun g s0 s5 s6 wr => ∃ i x n,i≤8∧g=8-i∧s6 = .int .i64 (i:Nat)∧s0 = .int .u32 (x:Nat)∧s5 = .int .u32 (n:Nat)∧x<4294967296∧n<256∧Hid (R=zd5 (8-i) x n)∧w=wr)
 case atStart=>exact ⟨0,s,b,by omega,rfl,rfl,rfl,rfl,hs,hb,H0,rfl⟩
 case round =>
  obtain ⟨i,x,n,hi,rfl,rfl,rfl,rfl,hx,hn,H,rfl⟩:=hrel
  by_cases hc:i<8
  · have hcz:(i:Int)<8:=by omega
    have H1:=Lib.hid (show R=zd5 (8-(i+1)) (qK x (n%2)) (n/2) from by rw [H.out,show 8-i=(8-(i+1))+1 by omega]; rfl)
    obtain ⟨q,hq⟩ : ∃ q,q=n%2:=⟨_,rfl⟩
    obtain ⟨m,hm⟩ : ∃ m,m=n/2:=⟨_,rfl⟩
    rw [← hq,← hm] at H1
    have z1:(n:Int)%2=(q:Int):=by omega
    have z2:(n:Int)/2=(m:Int):=by omega
    have hq2:q<2:=by omega
    have hm2:m<256:=by omega
    have HB:=Lib.hid (zfs x q w hx hq2)
    have hy:=Lib.hid (zfd (b:=q) hx)
    clear hq hm H
    generalize qK x q=y at *
    go_wp2_with fail
    refine HB.out.mono ?_
    rintro e w1 ⟨rfl,rfl⟩
    go_wp2
    go_roundg (8-(i+1))
    · exact ⟨i+1,y,m,by omega,rfl,by first | rfl | go_num,rfl,rfl,hy.out,hm2,H1,rfl⟩
    · omega
  · have hcz : ¬ (i:Int)<8:=by omega
    have h8:i=8:=by omega
    subst h8
    go_wp2
    go_returns
    exact ⟨by rw [H.out]; rfl,rfl⟩
set_option maxRecDepth 100000 in
set_option maxHeartbeats 1600000 in
theorem zek (s:Nat) (T:ByteArray) (w:World) (hs:s<4294967296) (hT:T.size≤9223372036854775807):Calls Tryz.prog 71 #[.int .u32 (s:Nat),.string T] w fun e w'=>e = .returned (.int .u32 (yQ s (za T):Nat))∧w=w':=by
 have hlen:=zc T
 go_enter Tryz.func71,Tryz.ntmps71
 go_wp2
 go_loopg [0,5] T.size (fun g s0 s5 wr => ∃ i x,i≤T.size∧g=T.size-i∧s5 = .int .i64 (i:Nat)∧s0 = .int .u32 (x:Nat)∧x<4294967296∧Hid (x=yQ s ((za T).take i))∧w=wr)
 case atStart=>exact ⟨0,s,by omega,rfl,rfl,rfl,hs,Lib.hid rfl,rfl⟩
 case round =>
  obtain ⟨i,x,hi,rfl,rfl,rfl,hx,H,rfl⟩:=hrel
  by_cases hc:i<T.size
  · have hcz:(i:Int)<(T.size:Int):=by omega
    have hil:i<(za T).length:=by omega
    have hb:(za T)[i]=T[i].toNat:=yC T i hc hil
    have hst:yQ s ((za T).take (i+1))=qb x T[i].toNat:=by
     rw [List.take_succ_eq_append_getElem hil,Qo,← H.out,hb]
    have hbl:T[i].toNat<256:=T[i].toNat_lt
    have HS:=Lib.hid hst
    have HB:=Lib.hid (zdL x T[i].toNat w hx hbl)
    have hy:=Lib.hid (Js hx hbl)
    clear hst hb H
    go_wp2_with fail
    refine HB.out.mono ?_
    rintro e w1 ⟨rfl,rfl⟩
    go_wp2
    go_roundg (T.size-(i+1))
    · exact ⟨i+1,_,by omega,rfl,by first | rfl | go_num,rfl,hy.out,Lib.hid HS.out.symm,rfl⟩
    · omega
  · have hcz : ¬ (i:Int)<(T.size:Int):=by omega
    have h8:i=T.size:=by omega
    go_wp2
    go_returns
    exact ⟨by rw [H.out,h8,← hlen,List.take_length]; rfl,rfl⟩
theorem zhp (T:ByteArray) (w:World) (hT:T.size≤9223372036854775807):Calls Tryz.prog 34 #[.string T] w fun e w'=>e = .returned (.int .u32 (yA T:Nat))∧w=w':=by
 have HF:=Lib.hid (zek 4294967295 T w (by omega) hT)
 have HO:=Lib.hid (show yA T=4294967295-yQ 4294967295 (za T) from rfl)
 have hl:=JB (za T) (s:=4294967295) (by omega) (zV T)
 generalize yQ 4294967295 (za T)=x at *
 go_enter Tryz.func34,Tryz.ntmps34
 go_wp2_with fail
 refine HF.out.mono ?_
 rintro e w1 ⟨rfl,rfl⟩
 go_wp2
 go_returns
 exact ⟨by rw [HO.out]; exact congrArg (fun z=>Ending.returned (.int .u32 z)) (by omega),rfl⟩
end Go.Proofs.YtfkcdnaghndgfaaGreatDoor
namespace Go.Proofs.YtfkcdnaghndgfaaGreatDoor
open Go.RowKit
def jW (l:List Nat):List Value:=l.map fun x:Nat => .int .u32 (x:Int)
theorem zba (l:List Nat) : ∀ v∈jW l,v.oneCell'=true:=by intro v hv; obtain ⟨x,_,rfl⟩:=List.mem_map.1 hv; rfl
theorem Zt (l:List Nat):(jW l).length=l.length:=by simp [jW]
theorem zhb (l:List Nat) (i x:Nat):(jW l).set i (.int .u32 (x:Nat))=jW (l.set i x):=by simp [jW]
theorem zfS {l:List Nat} {i x:Nat} (h:l[i]? =some x):(jW l)[i]? =some (.int .u32 (x:Int)):=by simp [jW,h]
def ZL:List Nat:=(List.range 256).map (jZ 8)
theorem Kt:Tryz.zeroCells64=(jW (List.replicate 256 0)).toArray:=by kernel_rfl
theorem ZN:(Tryz.prog.info? 64).map (·.size)=some 256:=by kernel_rfl
theorem Xv:ZL.length=256:=by simp [ZL]
theorem WA {i:Nat} (h:i<256):ZL[i]? =some (jZ 8 i):=by simp [ZL,h]
set_option maxRecDepth 100000 in
set_option maxHeartbeats 3200000 in
theorem zfb (w:World):Calls Tryz.prog 37 #[] w fun e w'=>e = .returned (.agg (jW ZL).toArray)∧Upd [] w w':=by
 go_enter Tryz.func37,Tryz.ntmps37
 go_wp2
 have hB0:=Blk.new w (jW (List.replicate 256 0)) 64
 have hU0:Upd [] w (w.alloc (.cells (jW (List.replicate 256 0)).toArray 64)):=(Upd.refl [] w).alloc _
 rw [Kt]
 generalize w.alloc (.cells (jW (List.replicate 256 0)).toArray 64)=w0 at *
 have HW:=Lib.hid (Nat.le_refl w.heap.size)
 obtain ⟨b0,hb0⟩ : ∃ b0,w.heap.size=b0:=⟨_,rfl⟩
 rw [hb0] at hB0 ⊢
 have HB:=Lib.hid (show w.heap.size≤b0 by omega)
 clear hb0 HW
 go_loopg [3] 256 (fun g s3 wr => ∃ i L,i≤256∧g=256-i∧s3 = .int .i64 (i:Nat)∧Blk wr b0 (jW L) 64∧L.length=256∧Hid (∀ j,j<i→L[j]? =some (jZ 8 j))∧Upd [] w wr)
 case atStart=>exact ⟨0,List.replicate 256 0,by omega,rfl,rfl,hB0,by simp,Lib.hid (fun j h=>by omega),hU0⟩
 case round =>
  obtain ⟨i,L,hi,rfl,rfl,hB,hL,HJ,hU⟩:=hrel
  clear hB0 hU0
  by_cases hc:i<256
  · have hcz:(i:Int)<256:=by omega
    have e0:IntKind.u32.wrap (i:Int)=(i:Int):=vv i (by omega)
    go_wp2
    go_loopg [2,8] 8 (fun g s2 s8 wx => ∃ k x,k≤8∧g=8-k∧s8 = .int .i64 (k:Nat)∧s2 = .int .u32 (x:Nat)∧x<4294967296∧Hid (jZ 8 i=jZ (8-k) x)∧wr=wx)
    case atStart=>exact ⟨0,i,by omega,rfl,rfl,by first | rfl | (congr 1; omega),by omega,Lib.hid rfl,rfl⟩
    case round =>
     obtain ⟨k,x,hk,rfl,rfl,rfl,hx,HX,rfl⟩:=hrel
     by_cases hc2:k<8
     · have hkz:(k:Int)<8:=by omega
       obtain ⟨p,hp⟩ : ∃ p,p=x%2:=⟨_,rfl⟩
       have ha:bits .and .u32 (x:Int) 1=(p:Int):=by
        have h:=zcM x 1 hx (by omega)
        rw [Nat.and_one_is_mod,← hp] at h
        exact h
       have hst:jZ (8-k) x=jZ (8-(k+1)) (yI x):=by rw [show 8-k=(8-(k+1))+1 by omega]; rfl
       have HST:=Lib.hid hst
       have hlt:=Lib.hid (Yt hx)
       have hxx:=ZM (x/2) 3988292384 (by omega) (by omega)
       rw [show ((x/2:Nat):Int)=(x:Int)/2 by omega] at hxx
       clear hst
       by_cases hp1:p=1
       · have t1:((p:Int)==1)=true:=by simp; omega
         have t1':(p==1)=true:=by simp [hp1]
         have HC:=Lib.hid (show yI x=(x/2) ^^^ 3988292384 from by unfold yI; rw [if_pos (by omega)])
         have HXX:=Lib.hid hxx
         clear hp hxx hp1
         go_wp2
         go_roundg (8-(k+1))
         · exact ⟨k+1,yI x,by omega,rfl,by first | rfl | go_num,by rw [HC.out,← HXX.out]; rfl,hlt.out,Lib.hid (by rw [HX.out,HST.out]),rfl⟩
         · omega
       · have t1:((p:Int)==1)=false:=by simp; omega
         have t1':(p==1)=false:=by simp [hp1]
         have HC:=Lib.hid (show yI x=x/2 from by unfold yI; rw [if_neg (by omega)])
         clear hp hxx hp1
         go_wp2
         go_roundg (8-(k+1))
         · exact ⟨k+1,yI x,by omega,rfl,by first | rfl | go_num,by rw [HC.out]; first | rfl | (congr 1; done) | (congr 1; omega),hlt.out,Lib.hid (by rw [HX.out,HST.out]),rfl⟩
         · omega
     · have hkz : ¬ (k:Int)<8:=by omega
       have hk8:k=8:=by omega
       subst hk8
       have HX2:=Lib.hid (show jZ 8 i=x from HX.out)
       have c1:=hB.cell i (v := .int .u32 ((L[i]'(by omega):Nat):Int)) (by rw [jW]; simp [hL,hc])
       have f1:=hB.frz i
       have hi0:(0:Int)≤(i:Int):=by omega
       generalize L[i]'(by omega)=old at *
       go_wp2
       go_roundg (256-(i+1))
       · refine ⟨i+1,L.set i x,by omega,rfl,by first | rfl | go_num,by rw [← zhb]; exact hB.set i _,by simpa using hL,Lib.hid ?_,hU.setCell (.inr (by exact HB.out)) _⟩
         intro j hj
         by_cases hji:j=i
         · subst hji; rw [List.getElem?_set_self (by omega),HX2.out]
         · rw [List.getElem?_set_ne (by omega)]; exact HJ.out j (by omega)
       · omega
  · have hcz : ¬ (i:Int)<256:=by omega
    have h8:i=256:=by omega
    subst h8
    have hLT:L=ZL:=List.ext_getElem? (fun j=>by
     by_cases hj:j<256
     · rw [HJ.out j hj,WA hj]
     · rw [List.getElem?_eq_none (by omega),List.getElem?_eq_none (by rw [Xv]; omega)])
    subst hLT
    have HLL:=Lib.hid (Zt ZL)
    have HTL:=Lib.hid Xv
    clear HJ hL
    generalize hTL:ZL=L at *
    have HTT:=Lib.hid hTL
    clear hTL
    go_wp2_with (first
     | (refine zr rfl 64 _ rfl b0 rfl 64 (jW L) hB _ Tryz.underlying64 rfl (by rw [HLL.out,HTL.out]; exact ZN) ?_)
     | (refine zs rfl 64 _ _ rfl b0 rfl (jW L) rfl 64 _ hB (by rw [HLL.out,HTL.out]; exact ZN) rfl (zba _) ?_; intro w2 hB2 hU2))
    refine bodyPost_ret (results_cell_row rfl _ _ b0 64 _ (0,0) _ (by simp) hB2 Tryz.underlying64 rfl (by rw [ZN]; simp [HLL.out,HTL.out])) (by simp) ⟨by rw [HTT.out],?_⟩
    exact hU.trans hU2 (fun k hk => .inr (by have:=HB.out; simp at hk; omega))
end Go.Proofs.YtfkcdnaghndgfaaGreatDoor
