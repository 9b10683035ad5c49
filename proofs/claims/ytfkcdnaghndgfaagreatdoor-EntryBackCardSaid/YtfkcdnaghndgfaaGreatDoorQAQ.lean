/- Package swingleref12: Split, Right; dos.Right, swingleref14.time: walks. -/
import Derived.Test.YtfkcdnaghndgfaaGreatDoorQAP
import Derived.Test.YtfkcdnaghndgfaaGreatDoorQAO
import Derived.Test.YtfkcdnaghndgfaaGreatDoorQAA
import Derived.Test.YtfkcdnaghndgfaaGreatDoorQAN
import Derived.Test.YtfkcdnaghndgfaaGreatDoorQAM
set_option linter.unusedVariables false
set_option linter.unusedSimpArgs false
set_option linter.unusedSectionVars false
namespace Go.Proofs.YtfkcdnaghndgfaaGreatDoor
open Go.RowKit
def Vi (t:Nat):Bool:=ZY (1980+(t:Int)/33554432%128) ((t:Int)/2097152%16) ((t:Int)/65536%32) ((t:Int)/2048%32) ((t:Int)/32%64) (2*((t:Int)%32))
theorem zfw (t:Nat):PartsOk (1980+(t:Int)/33554432%128) ((t:Int)/2097152%16) ((t:Int)/65536%32) ((t:Int)/2048%32) ((t:Int)/32%64) (2*((t:Int)%32)):=by
 constructor<;>omega
theorem Ql (t:Nat) (w:World) (ht:t<4294967296):Calls Tryz.prog 36 #[.int .u32 (t:Nat)] w fun e w'=>e = .returned (.bool (Vi t))∧Upd [] w w':=by
 have HS:=Lib.hid (za2 t w ht)
 have HR:=Lib.hid (fun w'=>zb8 _ _ _ _ _ _ w' (zfw t))
 have HT:=Lib.hid (show Vi t=ZY (1980+(t:Int)/33554432%128) ((t:Int)/2097152%16) ((t:Int)/65536%32) ((t:Int)/2048%32) ((t:Int)/32%64) (2*((t:Int)%32)) from rfl)
 unfold VK at HS
 go_enter Tryz.func36,Tryz.ntmps36
 go_wp2_with fail
 refine HS.out.mono ?_
 rintro e w1 ⟨rfl,hU1⟩
 go_wp2_with fail
 refine (HR.out w1).mono ?_
 rintro e w2 ⟨rfl,hU2⟩
 go_wp2
 go_returns
 exact ⟨by rw [HT.out]; rfl,hU1.then hU2⟩
end Go.Proofs.YtfkcdnaghndgfaaGreatDoor
namespace Go.Proofs.YtfkcdnaghndgfaaGreatDoor
open Go.RowKit
structure RecD where
 p:ByteArray
 m:Int
 sum:Nat
 l:Int
 wh:Int
 k:Int
 md:Int
 t:Nat
 pos:Int
def RecD.cells (r:RecD):List Value:=[.string r.p,.int .i64 r.m,.int .u32 (r.sum:Nat),.int .i64 r.l,.int .i64 r.wh,.int .i64 r.k,.int .i64 r.md,.int .u32 (r.t:Nat),.int .i64 r.pos]
def RecD.v (r:RecD):Value := .agg #[.string r.p,.int .i64 r.m,.int .u32 (r.sum:Nat),.int .i64 r.l,.int .i64 r.wh,.int .i64 r.k,.int .i64 r.md,.int .u32 (r.t:Nat),.int .i64 r.pos]
structure RecD.Fits (r:RecD):Prop where
 p:r.p.size≤1000
 sum:r.sum<4294967296
 t:r.t<4294967296
def zt (k:Int) (p:ByteArray):List Nat:=if k=2 then zc p++[47] else zc p
theorem vR (k:Int) (p:ByteArray) : ∀ x∈zt k p,x<256:=by
 unfold zt
 split
 · intro x hx; rcases List.mem_append.1 hx with h | h
   · exact zT p x h
   · simp at h; omega
 · exact zT p
theorem xW (k:Int) (p:ByteArray):(zt k p).length≤p.size+1:=by
 unfold zt
 split
 · simp [zd]
 · rw [zd]; omega
def ql (n:Int):Bool:=decide (0≤n)&&decide (n<2147483648)
def kH (r:RecD):Bool :=
 if (r.m≠0∧r.m≠8)∨ql r.l=false∨ql r.wh=false∨ql r.pos=false then false
 else if r.k=2 then decide (r.sum=0)&&decide (r.l=0)&&decide (r.wh=0)&&decide (r.m=0) else decide (r.m=8)||decide (r.l=r.wh)
def qE (k:Int) (t:Nat):Bool:=if k=2 then decide (t=2162688) else Vi t
def js (r:RecD):Bool:=(yl (zt r.k r.p)).2.2&&decide ((yl (zt r.k r.p)).1=zc r.p)&&decide (((yl (zt r.k r.p)).2.1:Int)=r.k)
def yu (r:RecD):Nat:=if js r=false then 5 else if kH r=false then 2 else if r.md<0∨511<r.md then 12 else if qE r.k r.t=false then 13 else 0
end Go.Proofs.YtfkcdnaghndgfaaGreatDoor
namespace Go.Proofs.YtfkcdnaghndgfaaGreatDoor
open Go.RowKit
def leP:Nat→Nat→List Nat
 | _,0=>[]
 | n,k+1=>n%256::leP (n/256) k
def leG:List Nat→Nat
 | []=>0
 | x::t=>x+256*leG t
theorem zS : ∀ (k n:Nat),(leP n k).length=k
 | 0,_=>rfl
 | k+1,n=>by rw [leP,List.length_cons,zS k]
theorem zcx : ∀ (k n:Nat),∀ x∈leP n k,x<256
 | 0,_=>by intro x hx; simp [leP] at hx
 | k+1,n=>by
   intro x hx
   rw [leP] at hx
   rcases List.mem_cons.1 hx with h | h
   · omega
   · exact zcx k _ x h
theorem Wn : ∀ (k n:Nat),leP n (k+1)=leP n k++[n/256^k%256]
 | 0,n=>by simp [leP]
 | k+1,n=>by
   rw [leP,Wn k (n/256),leP,List.cons_append,Nat.div_div_eq_div_mul,Nat.pow_succ,Nat.mul_comm 256]
theorem XU : ∀ (a b:List Nat),leG (a++b)=leG a+256^a.length*leG b
 | [],b=>by simp [leG]
 | x::t,b=>by
   rw [List.cons_append,leG,XU t b,leG,List.length_cons,Nat.pow_succ,Nat.mul_comm (256^t.length) 256,Nat.mul_add,Nat.mul_assoc]; omega
theorem zfj (a:List Nat) (x:Nat):leG (a++[x])=leG a+256^a.length*x:=by rw [XU]; simp [leG]
theorem zfK : ∀ (l:List Nat),(∀ x∈l,x<256)→leG l<256^l.length
 | [],_=>by simp [leG]
 | x::t,h=>by
   have h1:=h x (by simp)
   have h2:=zfK t fun y hy=>h y (by simp [hy])
   rw [leG,List.length_cons,Nat.pow_succ]; omega
theorem zcH : ∀ (k n:Nat),leG (leP n k)=n%256^k
 | 0,n=>by simp [leP,leG,Nat.mod_one]
 | k+1,n=>by
   rw [leP,leG,zcH k,Nat.pow_succ,Nat.mul_comm (256^k) 256,Nat.mod_mul]
structure RS where
 s:ByteArray
 p:Nat
 bad:Bool
def RS.cells (r:RS):List Value:=[.string r.s,.int .i64 (r.p:Nat),.bool r.bad]
def RS.l (r:RS):List Nat:=zc r.s
def RS.text (r:RS) (n:Nat):List Nat×RS :=
 if r.bad=true then ([],r) else if r.s.size-r.p<n then ([],⟨r.s,r.p,true⟩) else ((r.l.drop r.p).take n,⟨r.s,r.p+n,false⟩)
def RS.num (r:RS) (k:Nat):Nat×RS:=(leG (r.text k).1,(r.text k).2)
def RS.Ok (r:RS):Prop:=r.p≤r.s.size
theorem RS.text_ok {r:RS} (h:r.Ok) (n:Nat):(r.text n).2.Ok:=by
 unfold RS.text RS.Ok at *
 repeat' split
 all_goals (dsimp only; omega)
theorem RS.text_s (r:RS) (n:Nat):(r.text n).2.s=r.s:=by
 unfold RS.text
 repeat' split
 all_goals rfl
theorem RS.num_ok {r:RS} (h:r.Ok) (n:Nat):(r.num n).2.Ok:=RS.text_ok h n
theorem RS.num_s (r:RS) (n:Nat):(r.num n).2.s=r.s:=RS.text_s r n
theorem RS.text_lt (r:RS) (n:Nat) : ∀ x∈(r.text n).1,x<256:=by
 unfold RS.text
 repeat' split
 all_goals first
  | (intro x hx; simp at hx; done)
  | exact fun x hx=>zT r.s x (List.mem_of_mem_drop (List.mem_of_mem_take hx))
theorem RS.text_len (r:RS) (n:Nat):(r.text n).1.length≤n:=by
 unfold RS.text
 repeat' split
 all_goals (simp; try omega)
theorem RS.num_lt (r:RS) (k:Nat):(r.num k).1<256^k:=by
 refine Nat.lt_of_lt_of_le (zfK _ (r.text_lt k)) (Nat.pow_le_pow_right (by omega) (r.text_len k))
theorem RS.text_bad {r:RS} (h:r.bad=true) (n:Nat):r.text n=([],r):=by unfold RS.text; rw [if_pos h]
theorem RS.text_short {s:ByteArray} {p:Nat} (n:Nat) (h:s.size-p<n):(⟨s,p,false⟩:RS).text n=([],⟨s,p,true⟩):=by
 unfold RS.text; rw [if_neg (by simp),if_pos h]
theorem RS.text_fine {s:ByteArray} {p:Nat} (n:Nat) (h:n≤s.size-p):(⟨s,p,false⟩:RS).text n=(((zc s).drop p).take n,⟨s,p+n,false⟩):=by
 unfold RS.text; rw [if_neg (by simp),if_neg (by dsimp only; omega)]; rfl
theorem RS.text_isbad {r:RS} (h:r.bad=true) (n:Nat):(r.text n).2.bad=true:=by rw [RS.text_bad h]; exact h
theorem RS.text_all (r:RS) (n:Nat) (h:(r.text n).2.bad=false):r.bad=false∧n≤r.s.size-r.p∧r.text n=((r.l.drop r.p).take n,⟨r.s,r.p+n,false⟩):=by
 unfold RS.text at h ⊢
 split at h
 · rename_i h1; dsimp only at h; rw [h1] at h; cases h
 · rename_i h1
   split at h
   · cases h
   · rename_i h2
     exact ⟨by simpa using h1,by omega,by rw [if_neg h1,if_neg h2]⟩
theorem RS.text_not (r:RS) (n:Nat) (h:r.s.size<r.p+n) (hp:r.p≤r.s.size):(r.text n).2.bad=true:=by
 cases hb:(r.text n).2.bad with
 | true=>rfl
 | false=>have:=RS.text_all r n hb; omega
end Go.Proofs.YtfkcdnaghndgfaaGreatDoor
namespace Go.Proofs.YtfkcdnaghndgfaaGreatDoor
open Go.RowKit
def gN (s:ByteArray) (i k:Nat):Nat:=leG (((zc s).drop i).take k)
theorem yx {s:ByteArray} {p:Nat} (k:Nat) (h:p+k≤s.size):(⟨s,p,false⟩:RS).num k=(gN s p k,⟨s,p+k,false⟩):=by
 unfold RS.num; rw [RS.text_fine k (by omega)]; rfl
theorem qM (r:RS) (k:Nat) (h:(r.num k).2.bad=false) (hp:r.p≤r.s.size):r.bad=false∧r.p+k≤r.s.size∧r.num k=(gN r.s r.p k,⟨r.s,r.p+k,false⟩):=by
 obtain ⟨a,b,c⟩:=RS.text_all r k h
 refine ⟨a,by omega,?_⟩
 unfold RS.num; rw [c]; rfl
structure HdD where
 beg:Nat
 flags:Nat
 m:Nat
 t:Nat
 sum:Nat
 l:Nat
 wh:Nat
 name:List Nat
def hdP (r:RS):HdD×RS :=
 let a:=r.num 4
 let b:=a.2.num 2
 let f:=b.2.num 2
 let m:=f.2.num 2
 let t:=m.2.num 4
 let u:=t.2.num 4
 let l:=u.2.num 4
 let wh:=l.2.num 4
 let n:=wh.2.num 2
 let mo:=n.2.num 2
 let nm:=mo.2.text n.1
 let sk:=nm.2.text mo.1
 (⟨a.1,f.1,m.1,t.1,u.1,l.1,wh.1,nm.1⟩,sk.2)
def qa (s:ByteArray):Nat:=30+gN s 26 2+gN s 28 2
theorem KQ (s:ByteArray) (h30:30≤s.size) (h:qa s≤s.size) :
 hdP ⟨s,0,false⟩=(⟨gN s 0 4,gN s 6 2,gN s 8 2,gN s 10 4,gN s 14 4,gN s 18 4,gN s 22 4,((zc s).drop 30).take (gN s 26 2)⟩,⟨s,qa s,false⟩):=by
 unfold qa at h ⊢
 unfold hdP
 simp only [yx 4 (show 0+4≤s.size by omega),yx 2 (show 4+2≤s.size by omega),yx 2 (show 6+2≤s.size by omega),yx 2 (show 8+2≤s.size by omega),yx 4 (show 10+4≤s.size by omega),yx 4 (show 14+4≤s.size by omega),yx 4 (show 18+4≤s.size by omega),yx 4 (show 22+4≤s.size by omega),yx 2 (show 26+2≤s.size by omega),yx 2 (show 28+2≤s.size by omega),Nat.zero_add,Nat.reduceAdd]
 rw [RS.text_fine _ (by omega)]
 dsimp only
 rw [RS.text_fine _ (by omega)]
theorem zhY (s:ByteArray) (h:s.size<30∨s.size<qa s):(hdP ⟨s,0,false⟩).2.bad=true:=by
 cases hb:(hdP ⟨s,0,false⟩).2.bad with
 | true=>rfl
 | false =>
   exfalso
   unfold qa at h
   unfold hdP at hb
   dsimp only at hb
   have o0:(⟨s,0,false⟩:RS).Ok:=Nat.zero_le _
   have o1:=RS.num_ok o0 4
   have o2:=RS.num_ok o1 2
   have o3:=RS.num_ok o2 2
   have o4:=RS.num_ok o3 2
   have o5:=RS.num_ok o4 4
   have o6:=RS.num_ok o5 4
   have o7:=RS.num_ok o6 4
   have o8:=RS.num_ok o7 4
   have o9:=RS.num_ok o8 2
   have o10:=RS.num_ok o9 2
   obtain ⟨b1,l1,e1⟩:=RS.text_all _ _ hb
   obtain ⟨b2,l2,e2⟩:=RS.text_all _ _ b1
   obtain ⟨b3,l3,e3⟩:=qM _ _ b2 o9
   obtain ⟨b4,l4,e4⟩:=qM _ _ b3 o8
   obtain ⟨b5,l5,e5⟩:=qM _ _ b4 o7
   obtain ⟨b6,l6,e6⟩:=qM _ _ b5 o6
   obtain ⟨b7,l7,e7⟩:=qM _ _ b6 o5
   obtain ⟨b8,l8,e8⟩:=qM _ _ b7 o4
   obtain ⟨b9,l9,e9⟩:=qM _ _ b8 o3
   obtain ⟨b10,l10,e10⟩:=qM _ _ b9 o2
   obtain ⟨b11,l11,e11⟩:=qM _ _ b10 o1
   obtain ⟨b12,l12,e12⟩:=qM _ _ b11 o0
   clear b1 b2 b3 b4 b5 b6 b7 b8 b9 b10 b11 b12 o0 o1 o2 o3 o4 o5 o6 o7 o8 o9 o10 hb
   simp only [e12,Nat.zero_add,Nat.reduceAdd] at e11 l11 e10 l10 e9 l9 e8 l8 e7 l7 e6 l6 e5 l5 e4 l4 e3 l3 e2 l2 e1 l1
   simp only [e11,Nat.zero_add,Nat.reduceAdd] at e10 l10 e9 l9 e8 l8 e7 l7 e6 l6 e5 l5 e4 l4 e3 l3 e2 l2 e1 l1
   simp only [e10,Nat.zero_add,Nat.reduceAdd] at e9 l9 e8 l8 e7 l7 e6 l6 e5 l5 e4 l4 e3 l3 e2 l2 e1 l1
   simp only [e9,Nat.zero_add,Nat.reduceAdd] at e8 l8 e7 l7 e6 l6 e5 l5 e4 l4 e3 l3 e2 l2 e1 l1
   simp only [e8,Nat.zero_add,Nat.reduceAdd] at e7 l7 e6 l6 e5 l5 e4 l4 e3 l3 e2 l2 e1 l1
   simp only [e7,Nat.zero_add,Nat.reduceAdd] at e6 l6 e5 l5 e4 l4 e3 l3 e2 l2 e1 l1
   simp only [e6,Nat.zero_add,Nat.reduceAdd] at e5 l5 e4 l4 e3 l3 e2 l2 e1 l1
   simp only [e5,Nat.zero_add,Nat.reduceAdd] at e4 l4 e3 l3 e2 l2 e1 l1
   simp only [e4,Nat.zero_add,Nat.reduceAdd] at e3 l3 e2 l2 e1 l1
   simp only [e3,Nat.zero_add,Nat.reduceAdd] at e2 l2 e1 l1
   rw [e2] at l1
   dsimp only at l1
   omega
end Go.Proofs.YtfkcdnaghndgfaaGreatDoor
namespace Go.Proofs.YtfkcdnaghndgfaaGreatDoor
open Go.RowKit
def zB (r:RecD):List Nat:=[80,75,3,4,20,0,0,8]++(leP r.m.toNat 2++(leP r.t 4++(leP r.sum 4++(leP r.l.toNat 4++(leP r.wh.toNat 4++(leP (zt r.k r.p).length 2++([0,0]++zt r.k r.p)))))))
def Kv (r:RecD):List Nat:=if yu r=0 then zB r else []
theorem yE (r:RecD):(zB r).length=30+(zt r.k r.p).length:=by simp [zB,zS]; omega
theorem vI (r:RecD) : ∀ x∈zB r,x<256:=by
 intro x hx
 simp only [zB,List.mem_append] at hx
 rcases hx with h | h | h | h | h | h | h | h | h
 · simp at h; omega
 all_goals first
  | exact zcx _ _ x h
  | exact vR _ _ x h
  | (simp at h; omega)
theorem kU {s:ByteArray} {a c:List Nat} {n k i:Nat} (h:zc s=a++(leP n k++c)) (hi:a.length=i):gN s i k=n%256^k:=by
 unfold gN
 rw [h,← hi,List.drop_left,List.take_left' (zS k n),zcH]
def qX:RecD:=⟨.empty,0,0,0,0,0,0,0,0⟩
def zc6 (h:HdD) (a:Nat):RecD:=⟨zf (yl h.name).1,h.m,h.sum,h.l,h.wh,((yl h.name).2.1:Nat),0,h.t,a⟩
def yq (h:HdD):Bool:=(decide (h.beg=67324752)&&(decide (h.flags=2048)||decide (h.flags=2056))&&(decide (h.m=0)||decide (h.m=8)))&&(decide (h.flags=2048)||(decide (h.sum=0)&&decide (h.l=0)&&decide (h.wh=0)))
def XQ (x:ByteArray) (a:Nat):RecD×Nat×Bool×Nat :=
 if x.size<30∨x.size<qa x then (qX,0,false,3)
 else if yq (hdP ⟨x,0,false⟩).1=false then (qX,0,false,2)
 else if (yl (hdP ⟨x,0,false⟩).1.name).2.2=false then (qX,0,false,5)
 else if qE ((yl (hdP ⟨x,0,false⟩).1.name).2.1:Nat) (hdP ⟨x,0,false⟩).1.t=false then (qX,0,false,13)
 else (zc6 (hdP ⟨x,0,false⟩).1 a,qa x,decide ((hdP ⟨x,0,false⟩).1.flags=2056),0)
def zy (s:ByteArray) (a:Int):RecD×Nat×Bool×Nat :=
 if a<0∨(s.size:Int)<a then (qX,0,false,3) else XQ (s.extract a.toNat s.size) a.toNat
theorem qm {r:RecD} (h:yu r=0):js r=true∧kH r=true ∧ ¬ (r.md<0∨511<r.md)∧qE r.k r.t=true:=by
 unfold yu at h
 split at h
 · cases h
 rename_i h1
 split at h
 · cases h
 rename_i h2
 split at h
 · cases h
 rename_i h3
 split at h
 · cases h
 rename_i h4
 exact ⟨by simpa using h1,by simpa using h2,h3,by simpa using h4⟩
theorem QR {n:Int} (h:ql n=true):0≤n∧n<2147483648:=by
 unfold ql at h
 rw [Bool.and_eq_true,decide_eq_true_eq,decide_eq_true_eq] at h; exact h
theorem Zy {r:RecD} (h:kH r=true):(r.m=0∨r.m=8)∧(0≤r.l∧r.l<2147483648)∧(0≤r.wh∧r.wh<2147483648)∧(0≤r.pos∧r.pos<2147483648):=by
 unfold kH at h
 split at h
 · cases h
 rename_i h1
 have hm:r.m=0∨r.m=8:=by
  by_cases h0:r.m=0
  · exact .inl h0
  · by_cases h8:r.m=8
    · exact .inr h8
    · exact absurd (.inl ⟨h0,h8⟩) h1
 refine ⟨hm,?_,?_,?_⟩
 · exact QR (by cases hb:ql r.l with | true=>rfl | false=>exact absurd (.inr (.inl hb)) h1)
 · exact QR (by cases hb:ql r.wh with | true=>rfl | false=>exact absurd (.inr (.inr (.inl hb))) h1)
 · exact QR (by cases hb:ql r.pos with | true=>rfl | false=>exact absurd (.inr (.inr (.inr hb))) h1)
theorem Zt {r:RecD} (h:js r=true):(yl (zt r.k r.p)).2.2=true∧(yl (zt r.k r.p)).1=zc r.p∧((yl (zt r.k r.p)).2.1:Int)=r.k:=by
 unfold js at h
 rw [Bool.and_eq_true,Bool.and_eq_true,decide_eq_true_eq,decide_eq_true_eq] at h
 exact ⟨h.1.1,h.1.2,h.2⟩
theorem zes:(yl []).2.2=false:=by decide
theorem zix (r:RS):(hdP r).1.beg<4294967296∧(hdP r).1.flags<65536∧(hdP r).1.m<65536∧(hdP r).1.t<4294967296∧(hdP r).1.sum<4294967296∧(hdP r).1.l<4294967296∧(hdP r).1.wh<4294967296∧(∀ x∈(hdP r).1.name,x<256)∧(hdP r).1.name.length≤65535:=by
 unfold hdP
 dsimp only
 refine ⟨RS.num_lt _ 4,RS.num_lt _ 2,RS.num_lt _ 2,RS.num_lt _ 4,RS.num_lt _ 4,RS.num_lt _ 4,RS.num_lt _ 4,RS.text_lt _ _,?_⟩
 refine Nat.le_trans (RS.text_len _ _) ?_
 have:=RS.num_lt ((((((((r.num 4).2.num 2).2.num 2).2.num 2).2.num 4).2.num 4).2.num 4).2.num 4).2 2
 omega
end Go.Proofs.YtfkcdnaghndgfaaGreatDoor
namespace Go.Proofs.YtfkcdnaghndgfaaGreatDoor
open Go.RowKit
def jZ (x:ByteArray):Nat×Nat×Nat×Nat×Bool :=
 if x.size<12∨(gN x 0 4=134695760∧x.size<16) then (0,0,0,0,false)
 else if gN x 0 4=134695760 then (gN x 4 4,gN x 8 4,gN x 12 4,16,true) else (gN x 0 4,gN x 4 4,gN x 8 4,12,true)
def qW (s:ByteArray) (a:Int):Nat×Nat×Nat×Nat×Bool:=if a<0∨(s.size:Int)<a then (0,0,0,0,false) else jZ (s.extract a.toNat s.size)
end Go.Proofs.YtfkcdnaghndgfaaGreatDoor
namespace Go.Proofs.YtfkcdnaghndgfaaGreatDoor
def xh (x:Nat):Nat:=if x%2=1 then (x/2) ^^^ 3988292384 else x/2
def kF:Nat→Nat→Nat
 | 0,x=>x
 | k+1,x=>kF k (xh x)
def jV (s b:Nat):Nat:=kF 8 (s ^^^ b)
def xN (s:Nat) (l:List Nat):Nat:=l.foldl jV s
theorem zhv (a b:Nat):(a ^^^ b)%2=(a+b)%2:=by
 have h:=Nat.xor_mod_two_pow (a:=a) (b:=b) (n:=1)
 rw [Nat.pow_one] at h
 rw [h]
 rcases (by omega:a%2=0∨a%2=1) with h1 | h1<;>rcases (by omega:b%2=0∨b%2=1) with h2 | h2<;>rw [h1,h2]<;>simp<;>omega
theorem zfm (a b:Nat):(a ^^^ b)/2=(a/2) ^^^ (b/2):=by
 rw [Nat.xor_div_two]
theorem Yt {x:Nat} (h:x<4294967296):xh x<4294967296:=by
 unfold xh
 split
 · exact Nat.xor_lt_two_pow (n:=32) (by omega) (by omega)
 · omega
theorem Kj : ∀ (k:Nat) {x:Nat},x<4294967296→kF k x<4294967296
 | 0,_,h=>h
 | k+1,_,h=>Kj k (Yt h)
theorem YF (x z:Nat):xh (x ^^^ (2*z))=xh x ^^^ z:=by
 unfold xh
 rw [zhv,zfm,show (x+2*z)%2=x%2 by omega,show 2*z/2=z by omega]
 split
 · rw [Nat.xor_assoc,Nat.xor_comm z,← Nat.xor_assoc]
 · rfl
theorem Vw : ∀ (k x y:Nat),kF k (x ^^^ (2^k*y))=kF k x ^^^ y
 | 0,x,y=>by simp [kF]
 | k+1,x,y=>by
   show kF k (xh (x ^^^ (2^(k+1)*y)))=kF k (xh x) ^^^ y
   rw [show 2^(k+1)*y=2*(2^k*y) by rw [Nat.pow_succ,Nat.mul_comm (2^k) 2,Nat.mul_assoc],YF,Vw k]
theorem zdW (s:Nat):(s%256) ^^^ (2^8*(s/256))=s:=by
 apply Nat.eq_of_testBit_eq
 intro i
 have h:=Nat.testBit_two_pow_mul_add (s/256) (i:=8) (b:=s%256) (by omega) i
 rw [show 2^8*(s/256)+s%256=s by omega] at h
 rw [Nat.testBit_xor,Nat.testBit_two_pow_mul,h]
 by_cases hi:i<8
 · rw [decide_eq_false (show ¬ i≥8 by omega),if_pos hi]; simp
 · have h0:(s%256).testBit i=false:=Nat.testBit_lt_two_pow (Nat.lt_of_lt_of_le (Nat.mod_lt s (by omega)) (show 256≤2^i from Nat.pow_le_pow_right (n:=2) (by omega) (show 8≤i by omega)))
   rw [decide_eq_true (show i≥8 by omega),if_neg hi,h0]; simp
theorem zey (s b:Nat):kF 8 ((s%256) ^^^ b) ^^^ (s/256)=jV s b:=by
 unfold jV
 have e:s ^^^ b=((s%256) ^^^ b) ^^^ (2^8*(s/256)):=by
  rw [Nat.xor_assoc,Nat.xor_comm b,← Nat.xor_assoc,zdW]
 rw [e,Vw]
theorem ZW {s b:Nat} (hs:s<4294967296) (hb:b<256):jV s b<4294967296:=Kj 8 (Nat.xor_lt_two_pow (n:=32) hs (by omega))
theorem XZ : ∀ (l:List Nat) {s:Nat},s<4294967296→(∀ x∈l,x<256)→xN s l<4294967296
 | [],_,h,_=>h
 | x::l,_,h,hl=>XZ l (ZW h (hl x (by simp))) (fun y hy=>hl y (by simp [hy]))
theorem Km (s:Nat) (l:List Nat) (x:Nat):xN s (l++[x])=jV (xN s l) x:=by simp [xN]
def xw (s:ByteArray):Nat:=4294967295-xN 4294967295 (zc s)
end Go.Proofs.YtfkcdnaghndgfaaGreatDoor
namespace Go.Proofs.YtfkcdnaghndgfaaGreatDoor
open Go.RowKit
def ofT:Except Nat (List Nat×Nat)→ByteArray×Nat×Nat
 | .ok (out,a)=>(zf out,(a+7)/8,0)
 | .error c=>(⟨#[]⟩,0,c)
theorem zc1 (r:Except Nat (List Nat×Nat)):zfv r = .tuple #[.string (ofT r).1,.int .i64 ((ofT r).2.1:Nat),.int .i64 ((ofT r).2.2:Nat)]:=by
 cases r with
 | ok x=>rfl
 | error c=>rfl
def vQ (h r:RecD):Bool:=decide (h.p=r.p∧h.m=r.m∧h.k=r.k∧h.t=r.t∧h.pos=r.pos)
def qn (s:ByteArray) (h r:RecD) (f:Int) (b:Bool):Nat×Nat :=
 if b=true then
  (if (qW s (f+r.l)).2.2.2.2=false then (0,3)
  else if (qW s (f+r.l)).1≠r.sum∨((qW s (f+r.l)).2.1:Int)≠r.l∨((qW s (f+r.l)).2.2.1:Int)≠r.wh then (0,2) else ((qW s (f+r.l)).2.2.2.1,0))
 else if h.sum≠r.sum∨h.l≠r.l∨h.wh≠r.wh then (0,2) else (0,0)
def zbI (d:ByteArray) (r:RecD):ByteArray×Nat :=
 if 65000<r.wh then (⟨#[]⟩,4) else if (d.size:Int)≠r.wh then (⟨#[]⟩,2) else if r.k=1∧xw d≠r.sum then (⟨#[]⟩,11) else (d,0)
def qF (d:ByteArray) (r:RecD):ByteArray×Nat :=
 if r.m=8 then (if (ofT (ofP d r.wh)).2.2≠0 then (⟨#[]⟩,(ofT (ofP d r.wh)).2.2) else if (ofT (ofP d r.wh)).2.1≠d.size then (⟨#[]⟩,2) else zbI (ofT (ofP d r.wh)).1 r) else zbI d r
def qU (s:ByteArray) (r:RecD):ByteArray×Int×Nat :=
 if yu r≠0 then (⟨#[]⟩,0,1)
 else if (zy s r.pos).2.2.2≠0 then (⟨#[]⟩,0,(zy s r.pos).2.2.2)
 else if vQ (zy s r.pos).1 r=false then (⟨#[]⟩,0,2)
 else if (qn s (zy s r.pos).1 r (r.pos+(zy s r.pos).2.1) (zy s r.pos).2.2.1).2≠0 then (⟨#[]⟩,0,(qn s (zy s r.pos).1 r (r.pos+(zy s r.pos).2.1) (zy s r.pos).2.2.1).2)
 else if (s.size:Int)-(r.pos+(zy s r.pos).2.1)<r.l then (⟨#[]⟩,0,3)
 else if (qF (s.extract (r.pos+(zy s r.pos).2.1).toNat (r.pos+(zy s r.pos).2.1+r.l).toNat) r).2≠0 then (⟨#[]⟩,0,(qF (s.extract (r.pos+(zy s r.pos).2.1).toNat (r.pos+(zy s r.pos).2.1+r.l).toNat) r).2)
 else ((qF (s.extract (r.pos+(zy s r.pos).2.1).toNat (r.pos+(zy s r.pos).2.1+r.l).toNat) r).1,(zy s r.pos).2.1+r.l+(qn s (zy s r.pos).1 r (r.pos+(zy s r.pos).2.1) (zy s r.pos).2.2.1).1,0)
def zf1 (x:ByteArray×Int×Nat):Value := .tuple #[.string x.1,.int .i64 x.2.1,.int .i64 (x.2.2:Nat)]
theorem zeF {r:RecD} (h:yu r=0):(0≤r.l∧r.l<2147483648)∧(0≤r.wh∧r.wh<2147483648)∧(0≤r.pos∧r.pos<2147483648)∧(r.k=1∨r.k=2∧r.sum=0∧r.l=0∧r.wh=0∧r.m=0):=by
 obtain ⟨h1,h2,-,-⟩:=qm h
 unfold kH at h2
 split at h2
 · cases h2
 rename_i h3
 simp only [not_or,ql,Bool.not_eq_false,Bool.and_eq_true,decide_eq_true_eq] at h3
 refine ⟨h3.2.1,h3.2.2.1,h3.2.2.2,?_⟩
 unfold js at h1
 simp only [Bool.and_eq_true,decide_eq_true_eq] at h1
 have hk:=h1.2
 have hp:=h1.1.1
 by_cases h5:r.k=2
 · rw [if_pos h5] at h2
   simp only [Bool.and_eq_true,decide_eq_true_eq] at h2
   exact .inr ⟨h5,h2.1.1.1,h2.1.1.2,h2.1.2,h2.2⟩
 · left
   unfold yl at hk hp
   repeat' split at hk
   all_goals simp_all
   all_goals omega
theorem zeA {s:ByteArray} {a:Int} (h:(zy s a).2.2.2=0):(zy s a).1.pos=a∧(zy s a).2.1≤s.size∧0≤a∧a+(zy s a).2.1≤s.size:=by
 unfold zy at h ⊢
 split at h
 · cases h
 rename_i h1
 rw [if_neg h1]
 have hz:(s.extract a.toNat s.size).size=s.size-a.toNat:=by rw [ByteArray.size_extract]; omega
 unfold XQ at h ⊢
 split at h
 · cases h
 rename_i h2
 rw [if_neg h2]
 repeat' split at h
 all_goals first | (cases h; done) | skip
 rename_i h3 h4 h5
 rw [if_neg h3,if_neg h4,if_neg h5]
 refine ⟨?_,?_,?_,?_⟩
 · show ((a.toNat:Nat):Int)=a; omega
 · show qa _≤_; omega
 · omega
 · show a+((qa _:Nat):Int)≤_; omega
theorem zfl (s:ByteArray) (h r:RecD) (f:Int) (b:Bool):(qn s h r f b).1≤16:=by
 have h1:(qW s (f+r.l)).2.2.2.1≤16:=by
  unfold qW jZ
  repeat' split
  all_goals (dsimp only; omega)
 unfold qn
 repeat' split
 all_goals first | exact Nat.zero_le _ | exact h1
end Go.Proofs.YtfkcdnaghndgfaaGreatDoor
namespace Go.Proofs.YtfkcdnaghndgfaaGreatDoor
open Go.RowKit
theorem zhm {r:RecD} (hr:yu r=0):zt r.k r.p≠[]:=by
 intro h
 have h1:=(Zt (qm hr).1).1
 rw [h,zes] at h1
 cases h1
theorem zcY (r:RecD) (x:ByteArray) (d:List Nat) (hx:zc x=[80,75,3,4,20,0,0,8]++(leP r.m.toNat 2++(leP r.t 4++(leP r.sum 4++(leP r.l.toNat 4++(leP r.wh.toNat 4++(leP (zt r.k r.p).length 2++([0,0]++d)))))))) :
 gN x 0 4=67324752∧gN x 6 2=2048∧gN x 8 2=r.m.toNat%65536∧gN x 10 4=r.t%4294967296∧gN x 14 4=r.sum%4294967296∧gN x 18 4=r.l.toNat%4294967296∧gN x 22 4=r.wh.toNat%4294967296∧gN x 26 2=(zt r.k r.p).length%65536∧gN x 28 2=0:=by
 have hz:([0,0]:List Nat)=leP 0 2:=rfl
 have hb:([80,75,3,4,20,0,0,8]:List Nat)=leP 67324752 4++(leP 20 2++leP 2048 2):=by decide
 rw [hz,hb] at hx
 refine ⟨?_,?_,?_,?_,?_,?_,?_,?_,?_⟩
 · rw [kU (i:=0) (a:=[]) (k:=4) (n:=67324752) (c:=_) (by rw [hx,List.nil_append,List.append_assoc]) rfl]
 · rw [kU (a:=leP 67324752 4++leP 20 2) (k:=2) (n:=2048) (c:=_) (by rw [hx]; simp only [List.append_assoc]; rfl) (by simp [zS])]
 · rw [kU (a:=leP 67324752 4++(leP 20 2++leP 2048 2)) (k:=2) (n:=r.m.toNat) (c:=_) (by rw [hx]) (by simp [zS])]
 · rw [kU (a:=leP 67324752 4++(leP 20 2++leP 2048 2)++leP r.m.toNat 2) (k:=4) (n:=r.t) (c:=_) (by rw [hx]; simp only [List.append_assoc]; rfl) (by simp [zS])]
 · rw [kU (a:=leP 67324752 4++(leP 20 2++leP 2048 2)++(leP r.m.toNat 2++leP r.t 4)) (k:=4) (n:=r.sum) (c:=_) (by rw [hx]; simp only [List.append_assoc]; rfl) (by simp [zS])]
 · rw [kU (a:=leP 67324752 4++(leP 20 2++leP 2048 2)++(leP r.m.toNat 2++(leP r.t 4++leP r.sum 4))) (k:=4) (n:=r.l.toNat) (c:=_) (by rw [hx]; simp only [List.append_assoc]; rfl) (by simp [zS])]
 · rw [kU (a:=leP 67324752 4++(leP 20 2++leP 2048 2)++(leP r.m.toNat 2++(leP r.t 4++(leP r.sum 4++leP r.l.toNat 4)))) (k:=4) (n:=r.wh.toNat) (c:=_) (by rw [hx]; simp only [List.append_assoc]; rfl) (by simp [zS])]
 · rw [kU (a:=leP 67324752 4++(leP 20 2++leP 2048 2)++(leP r.m.toNat 2++(leP r.t 4++(leP r.sum 4++(leP r.l.toNat 4++leP r.wh.toNat 4))))) (k:=2) (n:=(zt r.k r.p).length) (c:=_) (by rw [hx]; simp only [List.append_assoc]; rfl) (by simp [zS])]
 · rw [kU (a:=leP 67324752 4++(leP 20 2++leP 2048 2)++(leP r.m.toNat 2++(leP r.t 4++(leP r.sum 4++(leP r.l.toNat 4++(leP r.wh.toNat 4++leP (zt r.k r.p).length 2)))))) (k:=2) (n:=0) (c:=_) (by rw [hx]; simp only [List.append_assoc]; rfl) (by simp [zS])]
theorem zhO (r:RecD) (c:List Nat):zB r++c=[80,75,3,4,20,0,0,8]++(leP r.m.toNat 2++(leP r.t 4++(leP r.sum 4++(leP r.l.toNat 4++(leP r.wh.toNat 4++(leP (zt r.k r.p).length 2++([0,0]++(zt r.k r.p++c)))))))):=by
 unfold zB; simp only [List.append_assoc]
theorem zfT (r:RecD) (h:zt r.k r.p≠[]):(zB r).dropLast=[80,75,3,4,20,0,0,8]++(leP r.m.toNat 2++(leP r.t 4++(leP r.sum 4++(leP r.l.toNat 4++(leP r.wh.toNat 4++(leP (zt r.k r.p).length 2++([0,0]++(zt r.k r.p).dropLast))))))):=by
 have e:zB r=([80,75,3,4,20,0,0,8]++(leP r.m.toNat 2++(leP r.t 4++(leP r.sum 4++(leP r.l.toNat 4++(leP r.wh.toNat 4++(leP (zt r.k r.p).length 2++[0,0])))))))++zt r.k r.p:=by unfold zB; simp only [List.append_assoc]
 rw [e,List.dropLast_append_of_ne_nil h]
 simp only [List.append_assoc]
theorem zdC (r:RecD) (x:ByteArray) (a:Nat) (hf:r.Fits) (hr:yu r=0) (hx:zc x=(zB r).dropLast):XQ x a=(qX,0,false,3):=by
 have hn:=zhm hr
 have hl:=xW r.k r.p
 have hp:=hf.p
 have hs:x.size=29+(zt r.k r.p).length:=by
  rw [← zd,hx,List.length_dropLast,yE]; omega
 rw [zfT r hn] at hx
 obtain ⟨_,_,_,_,_,_,_,g26,g28⟩:=zcY r x _ hx
 have hh:qa x=30+(zt r.k r.p).length:=by unfold qa; rw [g26,g28,Nat.mod_eq_of_lt (by omega),Nat.add_zero]
 exact if_pos (.inr (by omega))
theorem Yp (r:RecD) (x:ByteArray) (c:List Nat) (a:Nat) (hf:r.Fits) (hr:yu r=0) (hx:zc x=zB r++c):XQ x a=(⟨r.p,r.m,r.sum,r.l,r.wh,r.k,0,r.t,a⟩,30+(zt r.k r.p).length,false,0):=by
 have hl:=xW r.k r.p
 have hp:=hf.p
 obtain ⟨h1,h2,h3,h4⟩:=qm hr
 obtain ⟨n1,n2,n3⟩:=Zt h1
 obtain ⟨pm,pl,pw,pa⟩:=Zy h2
 have hs:x.size=30+(zt r.k r.p).length+c.length:=by rw [← zd,hx,List.length_append,yE]
 have hx2:=hx
 rw [zhO] at hx2
 obtain ⟨g0,g6,g8,g10,g14,g18,g22,g26,g28⟩:=zcY r x _ hx2
 rw [Nat.mod_eq_of_lt (by omega)] at g8 g18 g22 g26
 rw [Nat.mod_eq_of_lt hf.t] at g10
 rw [Nat.mod_eq_of_lt hf.sum] at g14
 have hh:qa x=30+(zt r.k r.p).length:=by unfold qa; rw [g26,g28,Nat.add_zero]
 have hnm:((zc x).drop 30).take (gN x 26 2)=zt r.k r.p:=by
  rw [g26,hx]
  have e:zB r++c=([80,75,3,4,20,0,0,8]++(leP r.m.toNat 2++(leP r.t 4++(leP r.sum 4++(leP r.l.toNat 4++(leP r.wh.toNat 4++(leP (zt r.k r.p).length 2++[0,0])))))))++(zt r.k r.p++c):=by unfold zB; simp only [List.append_assoc]
  rw [e,List.drop_left' (by simp [zS]),List.take_left' rfl]
 have hd:=KQ x (by omega) (by omega)
 rw [hnm,g0,g6,g8,g10,g14,g18,g22] at hd
 unfold XQ
 rw [if_neg (by omega),hd]
 dsimp only
 have hform:yq ⟨67324752,2048,r.m.toNat,r.t,r.sum,r.l.toNat,r.wh.toNat,zt r.k r.p⟩=true:=by
  unfold yq
  simp
  omega
 rw [hform,if_neg (by simp),n1,if_neg (by simp),n3,h4,if_neg (by simp),hh]
 unfold zc6
 dsimp only
 rw [n2,n3,zx,Int.toNat_of_nonneg pl.1,Int.toNat_of_nonneg pw.1,Int.toNat_of_nonneg (by omega)]
 rfl
end Go.Proofs.YtfkcdnaghndgfaaGreatDoor
namespace Go.Proofs.YtfkcdnaghndgfaaGreatDoor
open Go.RowKit
def BackP (S X:ByteArray):Prop := ∀ most:Int,S.size≤XG most→ofP X most = .ok (zc S,8*X.size) ∨ ∃ m:Nat,ofP X most = .ok (zc S,m)∧(m+7)/8=X.size
theorem BackP.val {S X:ByteArray} (h:BackP S X) (most:Int) (hm:S.size≤XG most):zfv (ofP X most) = .tuple #[.string S,.int .i64 (X.size:Nat),.int .i64 0]:=by
 rcases h most hm with e | ⟨m,e,hx⟩
 · rw [e]
   show Value.tuple #[.string (zf (zc S)),.int .i64 (((8*X.size+7)/8:Nat):Int),.int .i64 0]=_
   rw [zx,show (8*X.size+7)/8=X.size by omega]
 · rw [e]
   show Value.tuple #[.string (zf (zc S)),.int .i64 (((m+7)/8:Nat):Int),.int .i64 0]=_
   rw [zx,hx]
end Go.Proofs.YtfkcdnaghndgfaaGreatDoor
