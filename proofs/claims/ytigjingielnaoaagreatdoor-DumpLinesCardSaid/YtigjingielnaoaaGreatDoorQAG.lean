/- Package field: plain: numbers as bytes, a reader. -/
import Derived.Test.YtigjingielnaoaaGreatDoorQAA
import Derived.Test.YtigjingielnaoaaGreatDoorQAF
import Derived.WalkKit
import Derived.Handy
import Derived.Outline
import Derived.BigQuiet
import Derived.Deep.CutBlock
import Derived.Deep.DeepCutAuto
import Derived.Deep.DeepFit
import Derived.Deep.Light
import Derived.Deep.LoopGhost
import Derived.Deep.QuietTactic
import Derived.Deep.RegionHeld3
import Derived.Deep.RegionLaw
import Derived.IntWalk
import Derived.Laws.BitsAllLaws
import Derived.Lib.MinMax
import Derived.StillTailTactics
import Derived.WalkSpells
import Derived.Lib.Hide
import Derived.Test.YtigjingielnaoaaGreatDoorQAC
import Derived.Test.YtigjingielnaoaaGreatDoorQAB
set_option linter.unusedVariables false
set_option linter.unusedSimpArgs false
set_option linter.unusedSectionVars false
namespace Go.Proofs.YtigjingielnaoaaGreatDoor
open Go.RowKit
def leP:Nat→Nat→List Nat
 | _,0=>[]
 | n,k+1=>n%256::leP (n/256) k
def leG:List Nat→Nat
 | []=>0
 | x::t=>x+256*leG t
theorem xa : ∀ (k n:Nat),(leP n k).length=k
 | 0,_=>rfl
 | k+1,n=>by rw [leP,List.length_cons,xa k]
theorem Qi : ∀ (k n:Nat),∀ x∈leP n k,x<256
 | 0,_=>by intro x hx; simp [leP] at hx
 | k+1,n=>by
   intro x hx
   rw [leP] at hx
   rcases List.mem_cons.1 hx with h | h
   · omega
   · exact Qi k _ x h
theorem Ql : ∀ (k n:Nat),leP n (k+1)=leP n k++[n/256^k%256]
 | 0,n=>by simp [leP]
 | k+1,n=>by
   rw [leP,Ql k (n/256),leP,List.cons_append,Nat.div_div_eq_div_mul,Nat.pow_succ,Nat.mul_comm 256]
theorem kd : ∀ (a b:List Nat),leG (a++b)=leG a+256^a.length*leG b
 | [],b=>by simp [leG]
 | x::t,b=>by
   rw [List.cons_append,leG,kd t b,leG,List.length_cons,Nat.pow_succ,Nat.mul_comm (256^t.length) 256,Nat.mul_add,Nat.mul_assoc]; omega
theorem zdm (a:List Nat) (x:Nat):leG (a++[x])=leG a+256^a.length*x:=by rw [kd]; simp [leG]
theorem Ki : ∀ (l:List Nat),(∀ x∈l,x<256)→leG l<256^l.length
 | [],_=>by simp [leG]
 | x::t,h=>by
   have h1:=h x (by simp)
   have h2:=Ki t fun y hy=>h y (by simp [hy])
   rw [leG,List.length_cons,Nat.pow_succ]; omega
theorem XL : ∀ (k n:Nat),leG (leP n k)=n%256^k
 | 0,n=>by simp [leP,leG,Nat.mod_one]
 | k+1,n=>by
   rw [leP,leG,XL k,Nat.pow_succ,Nat.mul_comm (256^k) 256,Nat.mod_mul]
theorem Yv : ∀ (l:List Nat),(∀ x∈l,x<256)→leP (leG l) l.length=l
 | [],_=>rfl
 | x::t,h=>by
   have h1:=h x (by simp)
   have h2:=Yv t fun y hy=>h y (by simp [hy])
   rw [leG,List.length_cons,leP,show (x+256*leG t)%256=x by omega,show (x+256*leG t)/256=leG t by omega,h2]
structure RS where
 s:ByteArray
 p:Nat
 bad:Bool
def RS.cells (r:RS):List Value:=[.string r.s,.int .i64 (r.p:Nat),.bool r.bad]
def RS.l (r:RS):List Nat:=ze r.s
def RS.text (r:RS) (n:Nat):List Nat×RS :=
 if r.bad=true then ([],r) else if r.s.size-r.p<n then ([],⟨r.s,r.p,true⟩) else ((r.l.drop r.p).take n,⟨r.s,r.p+n,false⟩)
def RS.num (r:RS) (k:Nat):Nat×RS:=(leG (r.text k).1,(r.text k).2)
def RS.Ok (r:RS):Prop:=r.p≤r.s.size
theorem RS.text_ok {r:RS} (h:r.Ok) (n:Nat):(r.text n).2.Ok:=by
 unfold RS.text RS.Ok at *
 repeat' split
 all_goals (dsimp only; omega)
theorem RS.text_s (r:RS) (n:Nat):(r.text n).2.s=r.s:=by
 unfold RS.text
 repeat' split
 all_goals rfl
theorem RS.num_ok {r:RS} (h:r.Ok) (n:Nat):(r.num n).2.Ok:=RS.text_ok h n
theorem RS.num_s (r:RS) (n:Nat):(r.num n).2.s=r.s:=RS.text_s r n
theorem RS.text_lt (r:RS) (n:Nat) : ∀ x∈(r.text n).1,x<256:=by
 unfold RS.text
 repeat' split
 all_goals first
  | (intro x hx; simp at hx; done)
  | exact fun x hx=>yk r.s x (List.mem_of_mem_drop (List.mem_of_mem_take hx))
theorem RS.text_len (r:RS) (n:Nat):(r.text n).1.length≤n:=by
 unfold RS.text
 repeat' split
 all_goals (simp; try omega)
theorem RS.num_lt (r:RS) (k:Nat):(r.num k).1<256^k:=by
 refine Nat.lt_of_lt_of_le (Ki _ (r.text_lt k)) (Nat.pow_le_pow_right (by omega) (r.text_len k))
theorem RS.text_bad {r:RS} (h:r.bad=true) (n:Nat):r.text n=([],r):=by unfold RS.text; rw [if_pos h]
theorem RS.text_short {s:ByteArray} {p:Nat} (n:Nat) (h:s.size-p<n):(⟨s,p,false⟩:RS).text n=([],⟨s,p,true⟩):=by
 unfold RS.text; rw [if_neg (by simp),if_pos h]
theorem RS.text_fine {s:ByteArray} {p:Nat} (n:Nat) (h:n≤s.size-p):(⟨s,p,false⟩:RS).text n=(((ze s).drop p).take n,⟨s,p+n,false⟩):=by
 unfold RS.text; rw [if_neg (by simp),if_neg (by dsimp only; omega)]; rfl
theorem RS.text_isbad {r:RS} (h:r.bad=true) (n:Nat):(r.text n).2.bad=true:=by rw [RS.text_bad h]; exact h
theorem RS.text_all (r:RS) (n:Nat) (h:(r.text n).2.bad=false):r.bad=false∧n≤r.s.size-r.p∧r.text n=((r.l.drop r.p).take n,⟨r.s,r.p+n,false⟩):=by
 unfold RS.text at h ⊢
 split at h
 · rename_i h1; dsimp only at h; rw [h1] at h; cases h
 · rename_i h1
   split at h
   · cases h
   · rename_i h2
     exact ⟨by simpa using h1,by omega,by rw [if_neg h1,if_neg h2]⟩
theorem RS.text_not (r:RS) (n:Nat) (h:r.s.size<r.p+n) (hp:r.p≤r.s.size):(r.text n).2.bad=true:=by
 cases hb:(r.text n).2.bad with
 | true=>rfl
 | false=>have:=RS.text_all r n hb; omega
end Go.Proofs.YtigjingielnaoaaGreatDoor
namespace Go.Proofs.YtigjingielnaoaaGreatDoor
open Go.RowKit
def gN (s:ByteArray) (i k:Nat):Nat:=leG (((ze s).drop i).take k)
theorem zC (s:ByteArray) (i k:Nat):gN s i k<256^k:=by
 unfold gN
 refine Nat.lt_of_lt_of_le (Ki _ fun x hx=>yk s x (List.mem_of_mem_drop (List.mem_of_mem_take hx))) (Nat.pow_le_pow_right (by omega) ?_)
 rw [List.length_take]; omega
theorem zu {s:ByteArray} {p:Nat} (k:Nat) (h:p+k≤s.size):(⟨s,p,false⟩:RS).num k=(gN s p k,⟨s,p+k,false⟩):=by
 unfold RS.num; rw [RS.text_fine k (by omega)]; rfl
theorem zI (r:RS) (k:Nat) (h:(r.num k).2.bad=false) (hp:r.p≤r.s.size):r.bad=false∧r.p+k≤r.s.size∧r.num k=(gN r.s r.p k,⟨r.s,r.p+k,false⟩):=by
 obtain ⟨a,b,c⟩:=RS.text_all r k h
 refine ⟨a,by omega,?_⟩
 unfold RS.num; rw [c]; rfl
structure HdD where
 beg:Nat
 flags:Nat
 m:Nat
 t:Nat
 sum:Nat
 l:Nat
 wh:Nat
 name:List Nat
def hdP (r:RS):HdD×RS :=
 let a:=r.num 4
 let b:=a.2.num 2
 let f:=b.2.num 2
 let m:=f.2.num 2
 let t:=m.2.num 4
 let u:=t.2.num 4
 let l:=u.2.num 4
 let wh:=l.2.num 4
 let n:=wh.2.num 2
 let mo:=n.2.num 2
 let nm:=mo.2.text n.1
 let sk:=nm.2.text mo.1
 (⟨a.1,f.1,m.1,t.1,u.1,l.1,wh.1,nm.1⟩,sk.2)
def qE (s:ByteArray):Nat:=30+gN s 26 2+gN s 28 2
theorem Kb (s:ByteArray) (h30:30≤s.size) (h:qE s≤s.size) :
 hdP ⟨s,0,false⟩=(⟨gN s 0 4,gN s 6 2,gN s 8 2,gN s 10 4,gN s 14 4,gN s 18 4,gN s 22 4,((ze s).drop 30).take (gN s 26 2)⟩,⟨s,qE s,false⟩):=by
 unfold qE at h ⊢
 unfold hdP
 simp only [zu 4 (show 0+4≤s.size by omega),zu 2 (show 4+2≤s.size by omega),zu 2 (show 6+2≤s.size by omega),zu 2 (show 8+2≤s.size by omega),zu 4 (show 10+4≤s.size by omega),zu 4 (show 14+4≤s.size by omega),zu 4 (show 18+4≤s.size by omega),zu 4 (show 22+4≤s.size by omega),zu 2 (show 26+2≤s.size by omega),zu 2 (show 28+2≤s.size by omega),Nat.zero_add,Nat.reduceAdd]
 rw [RS.text_fine _ (by omega)]
 dsimp only
 rw [RS.text_fine _ (by omega)]
theorem zd0 (s:ByteArray) (h:s.size<30∨s.size<qE s):(hdP ⟨s,0,false⟩).2.bad=true:=by
 cases hb:(hdP ⟨s,0,false⟩).2.bad with
 | true=>rfl
 | false =>
   exfalso
   unfold qE at h
   unfold hdP at hb
   dsimp only at hb
   have o0:(⟨s,0,false⟩:RS).Ok:=Nat.zero_le _
   have o1:=RS.num_ok o0 4
   have o2:=RS.num_ok o1 2
   have o3:=RS.num_ok o2 2
   have o4:=RS.num_ok o3 2
   have o5:=RS.num_ok o4 4
   have o6:=RS.num_ok o5 4
   have o7:=RS.num_ok o6 4
   have o8:=RS.num_ok o7 4
   have o9:=RS.num_ok o8 2
   have o10:=RS.num_ok o9 2
   obtain ⟨b1,l1,e1⟩:=RS.text_all _ _ hb
   obtain ⟨b2,l2,e2⟩:=RS.text_all _ _ b1
   obtain ⟨b3,l3,e3⟩:=zI _ _ b2 o9
   obtain ⟨b4,l4,e4⟩:=zI _ _ b3 o8
   obtain ⟨b5,l5,e5⟩:=zI _ _ b4 o7
   obtain ⟨b6,l6,e6⟩:=zI _ _ b5 o6
   obtain ⟨b7,l7,e7⟩:=zI _ _ b6 o5
   obtain ⟨b8,l8,e8⟩:=zI _ _ b7 o4
   obtain ⟨b9,l9,e9⟩:=zI _ _ b8 o3
   obtain ⟨b10,l10,e10⟩:=zI _ _ b9 o2
   obtain ⟨b11,l11,e11⟩:=zI _ _ b10 o1
   obtain ⟨b12,l12,e12⟩:=zI _ _ b11 o0
   clear b1 b2 b3 b4 b5 b6 b7 b8 b9 b10 b11 b12 o0 o1 o2 o3 o4 o5 o6 o7 o8 o9 o10 hb
   simp only [e12,Nat.zero_add,Nat.reduceAdd] at e11 l11 e10 l10 e9 l9 e8 l8 e7 l7 e6 l6 e5 l5 e4 l4 e3 l3 e2 l2 e1 l1
   simp only [e11,Nat.zero_add,Nat.reduceAdd] at e10 l10 e9 l9 e8 l8 e7 l7 e6 l6 e5 l5 e4 l4 e3 l3 e2 l2 e1 l1
   simp only [e10,Nat.zero_add,Nat.reduceAdd] at e9 l9 e8 l8 e7 l7 e6 l6 e5 l5 e4 l4 e3 l3 e2 l2 e1 l1
   simp only [e9,Nat.zero_add,Nat.reduceAdd] at e8 l8 e7 l7 e6 l6 e5 l5 e4 l4 e3 l3 e2 l2 e1 l1
   simp only [e8,Nat.zero_add,Nat.reduceAdd] at e7 l7 e6 l6 e5 l5 e4 l4 e3 l3 e2 l2 e1 l1
   simp only [e7,Nat.zero_add,Nat.reduceAdd] at e6 l6 e5 l5 e4 l4 e3 l3 e2 l2 e1 l1
   simp only [e6,Nat.zero_add,Nat.reduceAdd] at e5 l5 e4 l4 e3 l3 e2 l2 e1 l1
   simp only [e5,Nat.zero_add,Nat.reduceAdd] at e4 l4 e3 l3 e2 l2 e1 l1
   simp only [e4,Nat.zero_add,Nat.reduceAdd] at e3 l3 e2 l2 e1 l1
   simp only [e3,Nat.zero_add,Nat.reduceAdd] at e2 l2 e1 l1
   rw [e2] at l1
   dsimp only at l1
   omega
end Go.Proofs.YtigjingielnaoaaGreatDoor
namespace Go.Proofs.YtigjingielnaoaaGreatDoor
open Go.RowKit
structure EgD where
 many:Nat
 size:Nat
 pos:Nat
 rem:Nat
def EgD.cells (e:EgD):List Value:=[.int .i64 (e.many:Nat),.int .i64 (e.size:Nat),.int .i64 (e.pos:Nat),.int .i64 (e.rem:Nat)]
def EgD.v (e:EgD):Value := .agg #[.int .i64 (e.many:Nat),.int .i64 (e.size:Nat),.int .i64 (e.pos:Nat),.int .i64 (e.rem:Nat)]
def EgD.no:EgD:=⟨0,0,0,0⟩
def zH (e:EgD):Bool:=decide (e.many≤65535)&&decide (e.size≤2147483647)&&decide (e.pos≤2147483647)&&decide (e.rem≤65535)
def vD (x:ByteArray):EgD:=⟨gN x 8 2,gN x 12 4,gN x 16 4,gN x 20 2⟩
def egX (x:ByteArray):EgD×Bool :=
 if x.size<22∨gN x 0 4≠101010256∨gN x 4 4≠0∨gN x 8 2≠gN x 10 2∨zH (vD x)=false∨x.size≠22+gN x 20 2 then (EgD.no,false) else (vD x,true)
def egP (s:ByteArray) (a:Int):EgD×Bool:=if a<0∨(s.size:Int)<a then (EgD.no,false) else egX (s.extract a.toNat s.size)
def egN (s:ByteArray):Nat→EgD×Nat×Bool
 | 0=>(EgD.no,0,false)
 | i+1=>if 65557<s.size-i then (EgD.no,0,false) else if (egP s (i:Nat)).2=true then ((egP s (i:Nat)).1,i,true) else egN s i
def egF (s:ByteArray):EgD×Nat×Bool:=egN s (s.size+1-22)
theorem zex {s:ByteArray} {a:Nat} (h:(egP s (a:Nat)).2=true):zH (egP s (a:Nat)).1=true∧a+22≤s.size:=by
 unfold egP at h ⊢
 split at h
 · cases h
 rename_i h1
 rw [if_neg h1]
 unfold egX at h ⊢
 split at h
 · cases h
 rename_i h2
 rw [if_neg h2]
 simp only [not_or] at h2
 have hz:(s.extract ((a:Int)).toNat s.size).size=s.size-a:=by rw [ByteArray.size_extract]; simp
 refine ⟨by simpa using h2.2.2.2.2.1,?_⟩
 have:=h2.1
 omega
theorem YB (s:ByteArray) : ∀ i,(egN s i).2.2=true→zH (egN s i).1=true∧(egN s i).2.1+22≤s.size
 | 0,h=>by cases h
 | i+1,h=>by
   unfold egN at h ⊢
   split at h
   · cases h
   rename_i h1
   rw [if_neg h1]
   split at h
   · rename_i h2; rw [if_pos h2]; exact zex h2
   · rename_i h2; rw [if_neg h2]; exact YB s i h
end Go.Proofs.YtigjingielnaoaaGreatDoor
namespace Go.Proofs.YtigjingielnaoaaGreatDoor
open Go.RowKit
def yu (a b:Int):Bool:=(decide (0≤a)&&decide (a≤1099511627776))&&(decide (534≤b)&&decide (b≤4194304))
set_option maxRecDepth 100000 in
set_option maxHeartbeats 1600000 in
theorem Vd (a b:Int) (w:World):Calls Tryz.prog 131 #[.agg #[.int .i64 a,.int .i64 b]] w fun r w'=>r = .returned (.bool (yu a b))∧Upd [] w w':=by
 have HV:Hid (yu a b=((decide (0≤a)&&decide (a≤1099511627776))&&(decide (534≤b)&&decide (b≤4194304)))):=Lib.hid rfl
 generalize yu a b=B at *
 have HA:=Lib.hid (Blk.new w [.int .i64 a,.int .i64 b] 80)
 have HU:=Lib.hid ((Upd.refl [] w).alloc (.cells #[.int .i64 a,.int .i64 b] 80))
 go_enter Tryz.func131,Tryz.ntmps131
 go_upto_region 1 with fail
 change Code.wp _ _ _ _ (w.alloc (.cells #[.int .i64 a,.int .i64 b] 80))
 generalize w.alloc (.cells #[.int .i64 a,.int .i64 b] 80)=w1 at *
 generalize w.heap.size=q at *
 have cA:=HA.out.all
 by_cases h0:0≤a
 rotate_left
 · have HT:=Lib.hid (HV.out.trans (show _=false by simp [h0]))
   go_wp2
   go_returns
   exact ⟨by rw [HT.out]; rfl,HU.out⟩
 by_cases h1:a≤1099511627776
 rotate_left
 · have HT:=Lib.hid (HV.out.trans (show _=false by simp [h1]))
   go_wp2
   go_returns
   exact ⟨by rw [HT.out]; rfl,HU.out⟩
 by_cases h2:534≤b
 rotate_left
 · have HT:=Lib.hid (HV.out.trans (show _=false by simp [h2]))
   go_wp2
   go_returns
   exact ⟨by rw [HT.out]; rfl,HU.out⟩
 by_cases h3:b≤4194304
 rotate_left
 · have HT:=Lib.hid (HV.out.trans (show _=false by simp [h3]))
   go_wp2
   go_returns
   exact ⟨by rw [HT.out]; rfl,HU.out⟩
 have HT:=Lib.hid (HV.out.trans (show _=true by simp [h0,h1,h2,h3]))
 go_wp2
 go_returns
 exact ⟨by rw [HT.out]; rfl,HU.out⟩
set_option maxRecDepth 100000 in
set_option maxHeartbeats 1600000 in
theorem Yy (a b:Int) (w:World):Calls Tryz.prog 47 #[.agg #[.int .i64 a,.int .i64 b]] w fun r w'=>r = .returned (.bool (yu a b))∧Upd [] w w':=by
 have HV:Hid (yu a b=((decide (0≤a)&&decide (a≤1099511627776))&&(decide (534≤b)&&decide (b≤4194304)))):=Lib.hid rfl
 generalize yu a b=B at *
 have HA:=Lib.hid (Blk.new w [.int .i64 a,.int .i64 b] 48)
 have HU:=Lib.hid ((Upd.refl [] w).alloc (.cells #[.int .i64 a,.int .i64 b] 48))
 go_enter Tryz.func47,Tryz.ntmps47
 go_upto_region 1 with fail
 change Code.wp _ _ _ _ (w.alloc (.cells #[.int .i64 a,.int .i64 b] 48))
 generalize w.alloc (.cells #[.int .i64 a,.int .i64 b] 48)=w1 at *
 generalize w.heap.size=q at *
 have cA:=HA.out.all
 by_cases h0:0≤a
 rotate_left
 · have HT:=Lib.hid (HV.out.trans (show _=false by simp [h0]))
   go_wp2
   go_returns
   exact ⟨by rw [HT.out]; rfl,HU.out⟩
 by_cases h1:a≤1099511627776
 rotate_left
 · have HT:=Lib.hid (HV.out.trans (show _=false by simp [h1]))
   go_wp2
   go_returns
   exact ⟨by rw [HT.out]; rfl,HU.out⟩
 by_cases h2:534≤b
 rotate_left
 · have HT:=Lib.hid (HV.out.trans (show _=false by simp [h2]))
   go_wp2
   go_returns
   exact ⟨by rw [HT.out]; rfl,HU.out⟩
 by_cases h3:b≤4194304
 rotate_left
 · have HT:=Lib.hid (HV.out.trans (show _=false by simp [h3]))
   go_wp2
   go_returns
   exact ⟨by rw [HT.out]; rfl,HU.out⟩
 have HT:=Lib.hid (HV.out.trans (show _=true by simp [h0,h1,h2,h3]))
 go_wp2
 go_returns
 exact ⟨by rw [HT.out]; rfl,HU.out⟩
theorem XW (n:Nat) (w:World) (h:n≤1000000):Calls Tryz.prog 183 #[.int .i64 (n:Nat)] w fun r w'=>r = .returned (.int .i64 ((n+511)/512:Nat))∧w'=w:=by
 have e1:min (n:Int) 1099511627776=(n:Int):=by omega
 have e2:max 0 (n:Int)=(n:Int):=by omega
 have e3:IntKind.i64.wrap ((n:Int)+512)=(n:Int)+512:=IntWalk.i64_in _ (by omega)
 have e4:IntKind.i64.wrap ((n:Int)+512-1)=(n:Int)+512-1:=IntWalk.i64_in _ (by omega)
 obtain ⟨q,hq⟩ : ∃ q:Nat,(n+511)/512=q:=⟨_,rfl⟩
 have HT:Hid (((n:Int)+512-1).tdiv 512=(q:Int)):=Lib.hid (by rw [Int.tdiv_eq_ediv_of_nonneg (by omega)]; omega)
 have e5:IntKind.i64.wrap (((n:Int)+512-1).tdiv 512)=(q:Int):=by rw [HT.out]; exact IntWalk.i64_in _ (by omega)
 rw [hq]
 clear hq
 go_enter Tryz.func183,Tryz.ntmps183
 go_wp2
 go_ret
 exact ⟨by first | rfl | (rw [HT.out]),rfl⟩
end Go.Proofs.YtigjingielnaoaaGreatDoor
namespace Go.Proofs.YtigjingielnaoaaGreatDoor
def yJ (x:Nat):Nat:=if x%2=1 then (x/2) ^^^ 3988292384 else x/2
def jm:Nat→Nat→Nat
 | 0,x=>x
 | k+1,x=>jm k (yJ x)
def qq (s b:Nat):Nat:=if (s+b)%2=1 then (s/2) ^^^ 3988292384 else s/2
def zbH:Nat→Nat→Nat→Nat
 | 0,s,_=>s
 | k+1,s,n=>zbH k (qq s (n%2)) (n/2)
def xP (s b:Nat):Nat:=jm 8 (s ^^^ b)
def yW (s:Nat) (l:List Nat):Nat:=l.foldl xP s
theorem WU (a b:Nat):(a ^^^ b)%2=(a+b)%2:=by
 have h:=Nat.xor_mod_two_pow (a:=a) (b:=b) (n:=1)
 rw [Nat.pow_one] at h
 rw [h]
 rcases (by omega:a%2=0∨a%2=1) with h1 | h1<;>rcases (by omega:b%2=0∨b%2=1) with h2 | h2<;>rw [h1,h2]<;>simp<;>omega
theorem YR (a b:Nat):(a ^^^ b)/2=(a/2) ^^^ (b/2):=by
 rw [Nat.xor_div_two]
theorem Qd {x:Nat} (h:x<4294967296):yJ x<4294967296:=by
 unfold yJ
 split
 · exact Nat.xor_lt_two_pow (n:=32) (by omega) (by omega)
 · omega
theorem Yp : ∀ (k:Nat) {x:Nat},x<4294967296→jm k x<4294967296
 | 0,_,h=>h
 | k+1,_,h=>Yp k (Qd h)
theorem zav (s n:Nat):qq s (n%2) ^^^ (n/2)=yJ (s ^^^ n):=by
 unfold qq yJ
 rw [WU,YR,show (s+n%2)%2=(s+n)%2 by omega]
 split
 · rw [Nat.xor_assoc,Nat.xor_comm 3988292384,← Nat.xor_assoc]
 · rfl
theorem zad : ∀ (k s n:Nat),n<2^k→zbH k s n=jm k (s ^^^ n)
 | 0,s,n,h=>by
   have:n=0:=by simpa using h
   subst this
   show s=s ^^^ 0
   rw [Nat.xor_zero]
 | k+1,s,n,h=>by
   show zbH k (qq s (n%2)) (n/2)=jm k (yJ (s ^^^ n))
   rw [zad k _ _ (by rw [Nat.pow_succ] at h; omega),zav]
theorem ZT (x z:Nat):yJ (x ^^^ (2*z))=yJ x ^^^ z:=by
 unfold yJ
 rw [WU,YR,show (x+2*z)%2=x%2 by omega,show 2*z/2=z by omega]
 split
 · rw [Nat.xor_assoc,Nat.xor_comm z,← Nat.xor_assoc]
 · rfl
theorem Xx : ∀ (k x y:Nat),jm k (x ^^^ (2^k*y))=jm k x ^^^ y
 | 0,x,y=>by simp [jm]
 | k+1,x,y=>by
   show jm k (yJ (x ^^^ (2^(k+1)*y)))=jm k (yJ x) ^^^ y
   rw [show 2^(k+1)*y=2*(2^k*y) by rw [Nat.pow_succ,Nat.mul_comm (2^k) 2,Nat.mul_assoc],ZT,Xx k]
theorem zaH (s:Nat):(s%256) ^^^ (2^8*(s/256))=s:=by
 apply Nat.eq_of_testBit_eq
 intro i
 have h:=Nat.testBit_two_pow_mul_add (s/256) (i:=8) (b:=s%256) (by omega) i
 rw [show 2^8*(s/256)+s%256=s by omega] at h
 rw [Nat.testBit_xor,Nat.testBit_two_pow_mul,h]
 by_cases hi:i<8
 · rw [decide_eq_false (show ¬ i≥8 by omega),if_pos hi]; simp
 · have h0:(s%256).testBit i=false:=Nat.testBit_lt_two_pow (Nat.lt_of_lt_of_le (Nat.mod_lt s (by omega)) (show 256≤2^i from Nat.pow_le_pow_right (n:=2) (by omega) (show 8≤i by omega)))
   rw [decide_eq_true (show i≥8 by omega),if_neg hi,h0]; simp
theorem zbn (s b:Nat):jm 8 ((s%256) ^^^ b) ^^^ (s/256)=xP s b:=by
 unfold xP
 have e:s ^^^ b=((s%256) ^^^ b) ^^^ (2^8*(s/256)):=by
  rw [Nat.xor_assoc,Nat.xor_comm b,← Nat.xor_assoc,zaH]
 rw [e,Xx]
theorem vo {s b:Nat} (hs:s<4294967296) (hb:b<256):xP s b<4294967296:=Yp 8 (Nat.xor_lt_two_pow (n:=32) hs (by omega))
theorem vw : ∀ (l:List Nat) {s:Nat},s<4294967296→(∀ x∈l,x<256)→yW s l<4294967296
 | [],_,h,_=>h
 | x::l,_,h,hl=>vw l (vo h (hl x (by simp))) (fun y hy=>hl y (by simp [hy]))
theorem vG (s:Nat) (l:List Nat) (x:Nat):yW s (l++[x])=xP (yW s l) x:=by simp [yW]
def yy (s:ByteArray):Nat:=4294967295-yW 4294967295 (ze s)
end Go.Proofs.YtigjingielnaoaaGreatDoor
namespace Go.Proofs.YtigjingielnaoaaGreatDoor
open Go.RowKit
def mkH (a b:Int):List Nat:=[83,87,73,78,71,76,69,49]++(leP a.toNat 8++leP b.toNat 8)
def mkF (a b:Int):List Nat:=mkH a b++leP (yy (zf (mkH a b))) 4
def mkW (a b:Int):List Nat:=if yu a b=true then mkF a b++List.replicate 484 0 else []
def mkX (s:ByteArray):(Int×Int)×Bool :=
 if (IntKind.i64.wrap (((⟨s,0,false⟩:RS).text 8).2.num 8).1=0∧IntKind.i64.wrap ((((⟨s,0,false⟩:RS).text 8).2.num 8).2.num 8).1=0)∨s.size=0∨zf (mkW (IntKind.i64.wrap (((⟨s,0,false⟩:RS).text 8).2.num 8).1) (IntKind.i64.wrap ((((⟨s,0,false⟩:RS).text 8).2.num 8).2.num 8).1))≠s then ((0,0),false)
 else ((IntKind.i64.wrap (((⟨s,0,false⟩:RS).text 8).2.num 8).1,IntKind.i64.wrap ((((⟨s,0,false⟩:RS).text 8).2.num 8).2.num 8).1),true)
theorem kR (a b:Int):(mkH a b).length=24:=by simp [mkH,xa]
theorem JT (a b:Int):(mkF a b).length=28:=by simp [mkF,kR,xa]
theorem zde (a b:Int) : ∀ x∈mkH a b,x<256:=by
 intro x hx
 unfold mkH at hx
 rcases List.mem_append.1 hx with h | h
 · simp at h; omega
 · rcases List.mem_append.1 h with h | h
   · exact Qi _ _ x h
   · exact Qi _ _ x h
theorem zcQ (a b:Int) : ∀ x∈mkF a b,x<256:=by
 intro x hx
 rcases List.mem_append.1 hx with h | h
 · exact zde _ _ x h
 · exact Qi _ _ x h
theorem zeJ (a b:Int) : ∀ x∈mkW a b,x<256:=by
 intro x hx
 unfold mkW at hx
 split at hx
 · rcases List.mem_append.1 hx with h | h
   · exact zcQ _ _ x h
   · have:=(List.mem_replicate.1 h).2; omega
 · cases hx
theorem JV {a b:Int} (h:yu a b=true):(mkW a b).length=512:=by
 unfold mkW; rw [if_pos h,List.length_append,JT,List.length_replicate]
theorem jd {a b:Int} (h:yu a b=true):0≤a∧a≤1099511627776∧534≤b∧b≤4194304:=by
 unfold yu at h
 simp only [Bool.and_eq_true,decide_eq_true_eq] at h
 omega
theorem zcI {s:ByteArray} (h:(mkX s).2=true):yu (mkX s).1.1 (mkX s).1.2=true:=by
 unfold mkX at h ⊢
 split at h
 · cases h
 rename_i h1
 rw [if_neg h1]
 simp only [not_or,Decidable.not_not] at h1
 obtain ⟨_,h2,h3⟩:=h1
 dsimp only
 generalize IntKind.i64.wrap (((⟨s,0,false⟩:RS).text 8).2.num 8).1=x at *
 generalize IntKind.i64.wrap ((((⟨s,0,false⟩:RS).text 8).2.num 8).2.num 8).1=y at *
 cases hb:yu x y with
 | true=>rfl
 | false =>
   exfalso
   have h4:mkW x y=[]:=by unfold mkW; rw [hb]; rfl
   rw [h4] at h3
   apply h2
   rw [← h3]
   rfl
theorem zbP {s:ByteArray} (h:s.size<8):mkX s=((0,0),false):=by
 have h1:(⟨s,0,false⟩:RS).text 8=([],⟨s,0,true⟩):=RS.text_short 8 (by omega)
 have h2:(⟨s,0,true⟩:RS).num 8=(0,⟨s,0,true⟩):=by unfold RS.num; rw [RS.text_bad rfl]; rfl
 unfold mkX
 rw [h1,h2]
 dsimp only
 rw [h2]
 exact if_pos (.inl ⟨rfl,rfl⟩)
theorem zaO (a b:Int) (h:yu a b=true):mkX (zf (mkW a b))=((a,b),true):=by
 obtain ⟨a0,a1,b0,b1⟩:=jd h
 have hl:=JV h
 have hz:(zf (mkW a b)).size=512:=by rw [zh,hl]
 have hb:=zz _ (zeJ a b)
 have hw:mkW a b=[83,87,73,78,71,76,69,49]++(leP a.toNat 8++(leP b.toNat 8++(leP (yy (zf (mkH a b))) 4++List.replicate 484 0))):=by
  unfold mkW; rw [if_pos h]; unfold mkF mkH; simp only [List.append_assoc]
 have t1:(⟨zf (mkW a b),0,false⟩:RS).text 8=_:=RS.text_fine 8 (by omega)
 have e2:(⟨zf (mkW a b),8,false⟩:RS).num 8=(a.toNat,⟨zf (mkW a b),16,false⟩):=by
  unfold RS.num
  rw [RS.text_fine 8 (by omega),hb,hw,List.drop_left' (by rfl),List.take_left' (xa _ _),XL,Nat.mod_eq_of_lt (by omega)]
 have e3:(⟨zf (mkW a b),16,false⟩:RS).num 8=(b.toNat,⟨zf (mkW a b),24,false⟩):=by
  unfold RS.num
  rw [RS.text_fine 8 (by omega),hb,hw,← List.append_assoc,List.drop_left' (by simp [xa]),List.take_left' (xa _ _),XL,Nat.mod_eq_of_lt (by omega)]
 have w1:IntKind.i64.wrap ((a.toNat:Nat):Int)=a:=by rw [Int.toNat_of_nonneg a0]; exact IntWalk.i64_in _ (by omega)
 have w2:IntKind.i64.wrap ((b.toNat:Nat):Int)=b:=by rw [Int.toNat_of_nonneg (by omega)]; exact IntWalk.i64_in _ (by omega)
 unfold mkX
 rw [t1]
 dsimp only
 rw [Nat.zero_add,e2]
 dsimp only
 rw [e3]
 dsimp only
 rw [w1,w2]
 rw [if_neg]
 simp only [not_or,Decidable.not_not]
 exact ⟨by omega,by omega,trivial⟩
end Go.Proofs.YtigjingielnaoaaGreatDoor
namespace Go.Proofs.YtigjingielnaoaaGreatDoor
open Go.RowKit
theorem Xs (p:ByteArray):p++({ data := #[47] }:ByteArray)=zf (ze p++[47]):=by
 rw [← xh,zw]; rfl
theorem Zm (r:RecD) (w:World) (h:r.Fits):Calls Tryz.prog 82 #[r.v] w fun e w'=>e = .returned (.string (zf (zF r.k r.p)))∧Upd [] w w':=by
 have hp:=h.p
 obtain ⟨p,m,sum,l,wh,k,md,t,pos⟩:=r
 dsimp only at hp
 unfold RecD.v
 dsimp only
 have HA:=Lib.hid (Xs p)
 have HB:=Lib.hid (zw p)
 by_cases hk:k=2
 · subst hk
   have HN:Hid (zF 2 p=ze p++[47]):=Lib.hid rfl
   go_enter Tryz.func82,Tryz.ntmps82
   go_wp2
   go_ret
   exact ⟨by rw [HN.out,← HA.out]; rfl,(Upd.refl _ _).alloc _⟩
 · have HN:Hid (zF k p=ze p):=Lib.hid (if_neg hk)
   have t1:(k==2)=false:=by rw [beq_eq_false_iff_ne]; exact hk
   go_enter Tryz.func82,Tryz.ntmps82
   go_wp2
   go_ret
   exact ⟨by rw [HN.out,HB.out]; rfl,(Upd.refl _ _).alloc _⟩
theorem kv (r:RecD) (w:World) (h:r.Fits):Calls Tryz.prog 56 #[r.v] w fun e w'=>e = .returned (.string (zf (zF r.k r.p)))∧Upd [] w w':=by
 have hp:=h.p
 obtain ⟨p,m,sum,l,wh,k,md,t,pos⟩:=r
 dsimp only at hp
 unfold RecD.v
 dsimp only
 have HA:=Lib.hid (Xs p)
 have HB:=Lib.hid (zw p)
 by_cases hk:k=2
 · subst hk
   have HN:Hid (zF 2 p=ze p++[47]):=Lib.hid rfl
   go_enter Tryz.func56,Tryz.ntmps56
   go_wp2
   go_ret
   exact ⟨by rw [HN.out,← HA.out]; rfl,(Upd.refl _ _).alloc _⟩
 · have HN:Hid (zF k p=ze p):=Lib.hid (if_neg hk)
   have t1:(k==2)=false:=by rw [beq_eq_false_iff_ne]; exact hk
   go_enter Tryz.func56,Tryz.ntmps56
   go_wp2
   go_ret
   exact ⟨by rw [HN.out,HB.out]; rfl,(Upd.refl _ _).alloc _⟩
theorem zda (n:Int) (w:World):Calls Tryz.prog 170 #[.int .i64 n] w fun e w'=>e = .returned (.bool (yq n))∧w=w':=by
 by_cases h:0≤n
 · have t1:decide (0≤n)=true:=decide_eq_true h
   have HS:Hid (yq n=decide (n<2147483648)):=Lib.hid (by unfold yq; rw [t1]; rfl)
   go_enter Tryz.func170,Tryz.ntmps170
   go_wp2
   go_returns
   exact ⟨by rw [HS.out]; rfl,rfl⟩
 · have t1:decide (0≤n)=false:=decide_eq_false h
   have HS:Hid (yq n=false):=Lib.hid (by unfold yq; rw [t1]; rfl)
   go_enter Tryz.func170,Tryz.ntmps170
   go_wp2
   go_returns
   exact ⟨by rw [HS.out]; rfl,rfl⟩
set_option maxRecDepth 100000 in
set_option maxHeartbeats 4000000 in
theorem zcC (r:RecD) (w:World) (h:r.Fits):Calls Tryz.prog 122 #[r.v] w fun e w'=>e = .returned (.bool (xH r))∧Upd [] w w':=by
 have hp:=h.p
 have hs:=h.sum
 have HL:=Lib.hid (show xH r=if (r.m≠0∧r.m≠8)∨yq r.l=false∨yq r.wh=false∨yq r.pos=false then false
  else if r.k=2 then decide (r.sum=0)&&decide (r.l=0)&&decide (r.wh=0)&&decide (r.m=0) else decide (r.m=8)||decide (r.l=r.wh) from rfl)
 obtain ⟨p,m,sum,l,wh,k,md,t,pos⟩:=r
 dsimp only at hp hs HL
 unfold RecD.v
 dsimp only
 rw [HL.out]
 clear HL
 go_enter Tryz.func122,Tryz.ntmps122
 go_wp2_with (go_at_call 170; refine (zda _ _).mono ?_; rintro e w2 ⟨rfl,rfl⟩)
 all_goals go_returns
 all_goals (refine ⟨congrArg (fun z=>Ending.returned (.bool z)) ?_,(Upd.refl _ _).alloc _⟩)
 all_goals (simp_all<;>rfl)
set_option maxRecDepth 100000 in
set_option maxHeartbeats 4000000 in
theorem Vg (r:RecD) (w:World) (h:r.Fits):Calls Tryz.prog 123 #[r.v] w fun e w'=>e = .returned (.bool (xj r.k r.t))∧Upd [] w w':=by
 have ht:=h.t
 obtain ⟨p,m,sum,l,wh,k,md,t,pos⟩:=r
 dsimp only at ht
 unfold RecD.v
 dsimp only
 have HT:=Lib.hid (fun w'=>XK t w' ht)
 by_cases hk:k=2
 · subst hk
   have HN:Hid (xj 2 t=decide (t=2162688)):=Lib.hid rfl
   have t1:((t:Int)==2162688)=decide (t=2162688):=by rw [Bool.eq_iff_iff,beq_iff_eq,decide_eq_true_eq]; omega
   go_enter Tryz.func123,Tryz.ntmps123
   go_wp2
   go_ret
   exact ⟨by rw [HN.out]; rfl,(Upd.refl _ _).alloc _⟩
 · have HN:Hid (xj k t=ja t):=Lib.hid (if_neg hk)
   have t1:(k==2)=false:=by rw [beq_eq_false_iff_ne]; exact hk
   go_enter Tryz.func123,Tryz.ntmps123
   go_wp2_with fail
   refine (HT.out _).mono ?_
   rintro e w1 ⟨rfl,hU⟩
   go_wp2
   go_ret
   exact ⟨by rw [HN.out]; rfl,((Upd.refl _ _).alloc _).then hU⟩
set_option maxRecDepth 100000 in
set_option maxHeartbeats 4000000 in
theorem Xu (r:RecD) (w:World) (h:r.Fits):Calls Tryz.prog 93 #[r.v] w fun e w'=>e = .returned (.bool (xj r.k r.t))∧Upd [] w w':=by
 have ht:=h.t
 obtain ⟨p,m,sum,l,wh,k,md,t,pos⟩:=r
 dsimp only at ht
 unfold RecD.v
 dsimp only
 have HS:=Lib.hid (fun w'=>Qu t w' ht)
 have HR:=Lib.hid (fun w'=>Wp _ _ _ _ _ _ w' (Qo t))
 have HT:=Lib.hid (show ja t=ji (1980+(t:Int)/33554432%128) ((t:Int)/2097152%16) ((t:Int)/65536%32) ((t:Int)/2048%32) ((t:Int)/32%64) (2*((t:Int)%32)) from rfl)
 unfold qi at HS
 by_cases hk:k=2
 · subst hk
   have HN:Hid (xj 2 t=decide (t=2162688)):=Lib.hid rfl
   have t1:((t:Int)==2162688)=decide (t=2162688):=by rw [Bool.eq_iff_iff,beq_iff_eq,decide_eq_true_eq]; omega
   go_enter Tryz.func93,Tryz.ntmps93
   go_wp2
   go_ret
   exact ⟨by rw [HN.out]; rfl,(Upd.refl _ _).alloc _⟩
 · have HN:Hid (xj k t=ja t):=Lib.hid (if_neg hk)
   have t1:(k==2)=false:=by rw [beq_eq_false_iff_ne]; exact hk
   go_enter Tryz.func93,Tryz.ntmps93
   go_wp2_with fail
   refine (HS.out _).mono ?_
   rintro e w1 ⟨rfl,hU⟩
   go_wp2_with fail
   refine (HR.out w1).mono ?_
   rintro e w2 ⟨rfl,hU2⟩
   go_wp2
   go_ret
   exact ⟨by rw [HN.out,HT.out]; rfl,(((Upd.refl _ _).alloc _).then hU).then hU2⟩
end Go.Proofs.YtigjingielnaoaaGreatDoor
namespace Go.Proofs.YtigjingielnaoaaGreatDoor
open Go.RowKit
theorem ki (a:List Nat) (p:ByteArray) (ha : ∀ x∈a,x<256):((zf a).toList=p.toList)=(a=ze p):=by
 refine propext ⟨fun h=>?_,fun h=>by rw [h,zw]⟩
 rw [ByteArray.toList_eq,ByteArray.toList_eq] at h
 have:zf a=p:=ByteArray.ext (Array.ext' h)
 rw [← this,zz a ha]
set_option maxRecDepth 100000 in
set_option maxHeartbeats 4000000 in
theorem jL (r:RecD) (w:World) (h:r.Fits):Calls Tryz.prog 80 #[r.v] w fun e w'=>e = .returned (.int .i64 (zM r:Nat))∧Upd [] w w':=by
 have hp:=h.p
 have hsz:(zf (zF r.k r.p)).size≤1000000:=by have:=xV r.k r.p; rw [zh]; omega
 have HN:=Lib.hid (fun w=>Zm r w h)
 have HP:=Lib.hid (fun w=>Zc (zf (zF r.k r.p)) w hsz)
 rw [zz _ (kI r.k r.p)] at HP
 have HL:=Lib.hid (fun w=>zcC r w h)
 have HT:=Lib.hid (fun w=>Vg r w h)
 have HE:Hid (zM r=if vh r=false then 5 else if xH r=false then 2 else if r.md<0∨511<r.md then 12 else if xj r.k r.t=false then 13 else 0):=Lib.hid rfl
 have HB:Hid (vh r=((zv (zF r.k r.p)).2.2&&decide ((zv (zF r.k r.p)).1=ze r.p)&&decide (((zv (zF r.k r.p)).2.1:Int)=r.k))):=Lib.hid rfl
 have HA:Hid (∀ x∈(zv (zF r.k r.p)).1,x<256):=Lib.hid (YW (kI r.k r.p))
 generalize zM r=E at *
 generalize xj r.k r.t=tb at *
 generalize xH r=lb at *
 generalize vh r=nb at *
 generalize zv (zF r.k r.p)=pp at *
 generalize zf (zF r.k r.p)=S at *
 clear hsz
 obtain ⟨a,kk,okb⟩:=pp
 unfold jq at HP
 dsimp only at HP HB HA
 obtain ⟨p,m,sum,l,wh,k,md,t,pos⟩:=r
 unfold RecD.v at *
 dsimp only at *
 have HQ:=Lib.hid (ki a p HA.out)
 clear HA
 go_enter Tryz.func80,Tryz.ntmps80
 go_wp2_with fail
 refine (HN.out _).mono ?_
 rintro e w1 ⟨rfl,hU1⟩
 go_wp2_with fail
 refine (HP.out _).mono ?_
 rintro e w2 ⟨rfl,hU2⟩
 have hU:Upd [] w w2:=(((Upd.refl [] w).alloc _).then hU1).then hU2
 have hB:=((Blk.new w [.string p,.int .i64 m,.int .u32 (sum:Nat),.int .i64 l,.int .i64 wh,.int .i64 k,.int .i64 md,.int .u32 (t:Nat),.int .i64 pos] 52).upd hU1 (by simp)).upd hU2 (by simp)
 have hlt:=hB.lt
 generalize w.heap.size=b0 at *
 have cA:=hB.all
 have HBB:=Lib.hid hB
 have HU:=Lib.hid hU
 clear hB hU hU1 hU2
 go_wp2_with fail
 any_goals (go_ret; refine ⟨?_,HU.out⟩; have hnb:nb=false:=(by
  rw [HB.out]
  first
   | (have h1 := ‹¬ (okb=true)›; simp [h1]; done)
   | (have h2 := ‹¬ ((zf a).toList=p.toList)›; rw [HQ.out] at h2; simp [h2]; done)
   | (have h3 := ‹((kk:Int) != k)=true›; have h4 : ¬ ((kk:Int)=k):=(by simpa using h3); simp [h4]; done)); rw [HE.out,hnb]; rfl)
 have hnb:nb=true:=by
  have h2 := ‹(zf a).toList=p.toList›
  have h1 := ‹okb=true›
  have h3 := ‹((kk:Int) != k)=false›
  rw [HQ.out] at h2
  have h4:(kk:Int)=k:=by simpa using h3
  rw [HB.out]
  simp [h1,h2,h4]
 cases lb with
 | false =>
   refine (HL.out _).mono ?_
   rintro e w3 ⟨rfl,hU3⟩
   have HF:=Lib.hid (HU.out.then hU3)
   clear hU3
   go_wp2
   go_ret
   exact ⟨by rw [HE.out,hnb]; rfl,HF.out⟩
 | true =>
   refine (HL.out _).mono ?_
   rintro e w3 ⟨rfl,hU3⟩
   have hB3:=HBB.out.upd hU3 (by simp)
   have dA:=hB3.all
   have HF:=Lib.hid (HU.out.then hU3)
   clear hU3 hB3 cA
   by_cases hm:md<0∨511<md
   · have HX:Hid (E=12):=Lib.hid (by rw [HE.out,hnb,if_neg (by simp),if_neg (by simp),if_pos hm])
     clear HE
     rcases hm with hm | hm
     · go_wp2_with fail
       go_ret
       exact ⟨by rw [HX.out]; rfl,HF.out⟩
     · have hm0 : ¬ md<0:=by omega
       go_wp2_with fail
       go_ret
       exact ⟨by rw [HX.out]; rfl,HF.out⟩
   · have HX:Hid (E=if tb=false then 13 else 0):=Lib.hid (by rw [HE.out,hnb,if_neg (by simp),if_neg (by simp),if_neg hm])
     have hm0 : ¬ md<0:=by omega
     have hm1 : ¬ 511<md:=by omega
     clear HE hm
     go_wp2_with fail
     refine (HT.out _).mono ?_
     rintro e w4 ⟨rfl,hU4⟩
     have HG:=Lib.hid (HF.out.then hU4)
     clear hU4 dA
     cases tb with
     | false =>
       go_wp2
       go_ret
       exact ⟨by rw [HX.out]; rfl,HG.out⟩
     | true =>
       go_wp2
       go_ret
       exact ⟨by rw [HX.out]; rfl,HG.out⟩
end Go.Proofs.YtigjingielnaoaaGreatDoor
