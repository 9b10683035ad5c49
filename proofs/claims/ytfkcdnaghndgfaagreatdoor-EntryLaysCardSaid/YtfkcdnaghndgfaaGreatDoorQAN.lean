/- Package swingleref12: Split, Right; dos.Right, swingleref14.time: walks. -/
import Derived.Test.YtfkcdnaghndgfaaGreatDoorQAM
import Derived.Test.YtfkcdnaghndgfaaGreatDoorQAL
import Derived.Test.YtfkcdnaghndgfaaGreatDoorQAA
import Derived.Test.YtfkcdnaghndgfaaGreatDoorQAJ
import Derived.Test.YtfkcdnaghndgfaaGreatDoorQAH
set_option linter.unusedVariables false
set_option linter.unusedSimpArgs false
set_option linter.unusedSectionVars false
namespace Go.Proofs.YtfkcdnaghndgfaaGreatDoor
open Go.RowKit
def Jt (t:Nat):Bool:=jv (1980+(t:Int)/33554432%128) ((t:Int)/2097152%16) ((t:Int)/65536%32) ((t:Int)/2048%32) ((t:Int)/32%64) (2*((t:Int)%32))
theorem Yo (t:Nat):PartsOk (1980+(t:Int)/33554432%128) ((t:Int)/2097152%16) ((t:Int)/65536%32) ((t:Int)/2048%32) ((t:Int)/32%64) (2*((t:Int)%32)):=by
 constructor<;>omega
theorem Qj (t:Nat) (w:World) (ht:t<4294967296):Calls Tryz.prog 36 #[.int .u32 (t:Nat)] w fun e w'=>e = .returned (.bool (Jt t))∧Upd [] w w':=by
 have HS:=Lib.hid (zci t w ht)
 have HR:=Lib.hid (fun w'=>zby _ _ _ _ _ _ w' (Yo t))
 have HT:=Lib.hid (show Jt t=jv (1980+(t:Int)/33554432%128) ((t:Int)/2097152%16) ((t:Int)/65536%32) ((t:Int)/2048%32) ((t:Int)/32%64) (2*((t:Int)%32)) from rfl)
 unfold kR at HS
 go_enter Tryz.func36,Tryz.ntmps36
 go_wp2_with fail
 refine HS.out.mono ?_
 rintro e w1 ⟨rfl,hU1⟩
 go_wp2_with fail
 refine (HR.out w1).mono ?_
 rintro e w2 ⟨rfl,hU2⟩
 go_wp2
 go_returns
 exact ⟨by rw [HT.out]; rfl,hU1.then hU2⟩
set_option maxRecDepth 100000 in
set_option maxHeartbeats 3200000 in
theorem XL (t:Nat) (w:World) (ht:t<4294967296):Calls Tryz.prog 55 #[.int .u32 (t:Nat)] w fun e w'=>e = .returned (.agg (kR t).toArray)∧Upd [] w w':=by
 have e1:(t:Int)/33554432%128=(t:Int)/32/64/32/32/16:=by omega
 have e2:(t:Int)/2097152%16=(t:Int)/32/64/32/32%16:=by omega
 have e3:(t:Int)/65536%32=(t:Int)/32/64/32%32:=by omega
 have e4:(t:Int)/2048%32=(t:Int)/32/64%32:=by omega
 have HP:=Lib.hid (show kR t=[.int .i64 (1980+(t:Int)/32/64/32/32/16),.int .i64 ((t:Int)/32/64/32/32%16),.int .i64 ((t:Int)/32/64/32%32),.int .i64 ((t:Int)/32/64%32),.int .i64 ((t:Int)/32%64),.int .i64 (2*((t:Int)%32))] from by unfold kR; rw [e1,e2,e3,e4])
 clear e1 e2 e3 e4
 go_enter Tryz.func55,Tryz.ntmps55
 go_wp2
 have hB:=(Blk.new w [.int .i64 (1980+(t:Int)/32/64/32/32/16),.int .i64 ((t:Int)/32/64/32/32%16),.int .i64 ((t:Int)/32/64/32%32),.int .i64 ((t:Int)/32/64%32),.int .i64 ((t:Int)/32%64),.int .i64 (2*((t:Int)%32))] 89).alloc (Obj.cells #[.int .i64 (1980+(t:Int)/32/64/32/32/16),.int .i64 ((t:Int)/32/64/32/32%16),.int .i64 ((t:Int)/32/64/32%32),.int .i64 ((t:Int)/32/64%32),.int .i64 ((t:Int)/32%64),.int .i64 (2*((t:Int)%32))] 89)
 rw [HP.out]
 refine bodyPost_ret (results_cell_row rfl _ _ w.heap.size 89 _ (0,0) _ (by simp) hB Tryz.underlying89 rfl (by rw [ziU]; rfl)) (by simp) ⟨rfl,?_⟩
 exact ((Upd.refl [] w).alloc _).alloc _
theorem zbq {y m d h mi s:Int}:jv y m d h mi s=(decide (1≤d)&&decide (d≤qp y m)&&decide (h≤23)&&decide (mi≤59)&&(decide (s≤58)&&decide (s%2=0))):=by
 unfold jv
 have e1:decide (h<24)=decide (h≤23):=decide_eq_decide.2 (by omega)
 have e2:decide (mi<60)=decide (mi≤59):=decide_eq_decide.2 (by omega)
 have e3:(decide (s<60)&&decide (s%2=0))=(decide (s≤58)&&decide (s%2=0)):=by
  rw [← Bool.decide_and,← Bool.decide_and]; exact decide_eq_decide.2 (by omega)
 rw [e1,e2,Bool.and_assoc,e3]
set_option maxRecDepth 100000 in
set_option maxHeartbeats 6400000 in
theorem XR (y m d h mi s:Int) (w:World) (hp:PartsOk y m d h mi s) :
 Calls Tryz.prog 54 #[.agg #[.int .i64 y,.int .i64 m,.int .i64 d,.int .i64 h,.int .i64 mi,.int .i64 s]] w fun e w'=>e = .returned (.bool (jv y m d h mi s))∧Upd [] w w':=by
 obtain ⟨y0,y1,m0,m1,d0,d1,h0,h1,i0,i1,s0,s1⟩:=hp
 have HD:=Lib.hid (fun w'=>zfp y m w' y0 y1 m0 m1)
 have HRB:=Lib.hid (zbq (y:=y) (m:=m) (d:=d) (h:=h) (mi:=mi) (s:=s))
 have u1:decide (0≤h)=true:=decide_eq_true h0
 have u2:decide (0≤mi)=true:=decide_eq_true i0
 have u3:decide (0≤s)=true:=decide_eq_true s0
 generalize jv y m d h mi s=B at *
 generalize qp y m=D at *
 go_enter Tryz.func54,Tryz.ntmps54
 go_upto_region 1 with fail
 have hB:=Blk.new w [.int .i64 y,.int .i64 m,.int .i64 d,.int .i64 h,.int .i64 mi,.int .i64 s] 89
 have hU:Upd [] w (w.alloc (.cells #[.int .i64 y,.int .i64 m,.int .i64 d,.int .i64 h,.int .i64 mi,.int .i64 s] 89)):=(Upd.refl [] w).alloc _
 change Code.wp _ _ _ _ (w.alloc (.cells #[.int .i64 y,.int .i64 m,.int .i64 d,.int .i64 h,.int .i64 mi,.int .i64 s] 89))
 generalize w.alloc (.cells #[.int .i64 y,.int .i64 m,.int .i64 d,.int .i64 h,.int .i64 mi,.int .i64 s] 89)=w1 at *
 generalize hb:w.heap.size=b at *
 have HW:=Lib.hid hb
 clear hb
 have cA:=hB.all
 by_cases k1:1≤d
 · by_cases k2:d≤D
   · by_cases k3:h≤23
     · by_cases k4:mi≤59
       · by_cases k5:s≤58
         · have t1:decide (1≤d)=true:=decide_eq_true k1
           have t2:decide (d≤D)=true:=decide_eq_true k2
           have t3:decide (h≤23)=true:=decide_eq_true k3
           have t4:decide (mi≤59)=true:=decide_eq_true k4
           have t5:decide (s≤58)=true:=decide_eq_true k5
           go_quiet ((go_at_call 92; exact Calls.quiet_of_same ((HD.out _).mono fun _ _ ⟨h1,h2⟩=>⟨h1,h2.symm⟩)))
           go_wp2
           go_returns
           exact ⟨by rw [HRB.out,t1,t2,t3,t4,t5]; show Ending.returned (.bool (s%2==0))=_; by_cases e:s%2=0<;>simp [e],hU.drewN _⟩
         · have t1:decide (1≤d)=true:=decide_eq_true k1
           have t2:decide (d≤D)=true:=decide_eq_true k2
           have t3:decide (h≤23)=true:=decide_eq_true k3
           have t4:decide (mi≤59)=true:=decide_eq_true k4
           have t5:decide (s≤58)=false:=decide_eq_false k5
           go_quiet ((go_at_call 92; exact Calls.quiet_of_same ((HD.out _).mono fun _ _ ⟨h1,h2⟩=>⟨h1,h2.symm⟩)))
           go_wp2
           go_returns
           exact ⟨by rw [HRB.out,t1,t2,t3,t4]; show Ending.returned (.bool false)=_; rw [show (decide (s≤58)&&decide (s%2=0))=false from by rw [t5]; rfl]; rfl,hU.drewN _⟩
       · have t1:decide (1≤d)=true:=decide_eq_true k1
         have t2:decide (d≤D)=true:=decide_eq_true k2
         have t3:decide (h≤23)=true:=decide_eq_true k3
         have t4:decide (mi≤59)=false:=decide_eq_false k4
         go_quiet ((go_at_call 92; exact Calls.quiet_of_same ((HD.out _).mono fun _ _ ⟨h1,h2⟩=>⟨h1,h2.symm⟩)))
         go_wp2
         go_returns
         exact ⟨by rw [HRB.out,t1,t2,t3,t4]; rfl,hU.drewN _⟩
     · have t1:decide (1≤d)=true:=decide_eq_true k1
       have t2:decide (d≤D)=true:=decide_eq_true k2
       have t3:decide (h≤23)=false:=decide_eq_false k3
       go_quiet ((go_at_call 92; exact Calls.quiet_of_same ((HD.out _).mono fun _ _ ⟨h1,h2⟩=>⟨h1,h2.symm⟩)))
       go_wp2
       go_returns
       exact ⟨by rw [HRB.out,t1,t2,t3]; rfl,hU.drewN _⟩
   · have t1:decide (1≤d)=true:=decide_eq_true k1
     have t2:decide (d≤D)=false:=decide_eq_false k2
     go_quiet ((go_at_call 92; exact Calls.quiet_of_same ((HD.out _).mono fun _ _ ⟨h1,h2⟩=>⟨h1,h2.symm⟩)))
     go_wp2
     go_returns
     exact ⟨by rw [HRB.out,t1,t2]; rfl,hU.drewN _⟩
 · have t1:decide (1≤d)=false:=decide_eq_false k1
   go_quiet ((go_at_call 92; exact Calls.quiet_of_same ((HD.out _).mono fun _ _ ⟨h1,h2⟩=>⟨h1,h2.symm⟩)))
   go_wp2
   go_returns
   exact ⟨by rw [HRB.out,t1]; rfl,hU.drewN _⟩
theorem zaa (t:Nat) (w:World) (ht:t<4294967296):Calls Tryz.prog 24 #[.int .u32 (t:Nat)] w fun e w'=>e = .returned (.bool (Jt t))∧Upd [] w w':=by
 have HS:=Lib.hid (XL t w ht)
 have HR:=Lib.hid (fun w'=>XR _ _ _ _ _ _ w' (Yo t))
 have HT:=Lib.hid (show Jt t=jv (1980+(t:Int)/33554432%128) ((t:Int)/2097152%16) ((t:Int)/65536%32) ((t:Int)/2048%32) ((t:Int)/32%64) (2*((t:Int)%32)) from rfl)
 unfold kR at HS
 go_enter Tryz.func24,Tryz.ntmps24
 go_wp2_with fail
 refine HS.out.mono ?_
 rintro e w1 ⟨rfl,hU1⟩
 go_wp2_with fail
 refine (HR.out w1).mono ?_
 rintro e w2 ⟨rfl,hU2⟩
 go_wp2
 go_returns
 exact ⟨by rw [HT.out]; rfl,hU1.then hU2⟩
end Go.Proofs.YtfkcdnaghndgfaaGreatDoor
namespace Go.Proofs.YtfkcdnaghndgfaaGreatDoor
open Go.RowKit
structure RecD where
 p:ByteArray
 m:Int
 sum:Nat
 l:Int
 wh:Int
 k:Int
 md:Int
 t:Nat
 pos:Int
def RecD.cells (r:RecD):List Value:=[.string r.p,.int .i64 r.m,.int .u32 (r.sum:Nat),.int .i64 r.l,.int .i64 r.wh,.int .i64 r.k,.int .i64 r.md,.int .u32 (r.t:Nat),.int .i64 r.pos]
def RecD.v (r:RecD):Value := .agg #[.string r.p,.int .i64 r.m,.int .u32 (r.sum:Nat),.int .i64 r.l,.int .i64 r.wh,.int .i64 r.k,.int .i64 r.md,.int .u32 (r.t:Nat),.int .i64 r.pos]
structure RecD.Fits (r:RecD):Prop where
 p:r.p.size≤1000
 sum:r.sum<4294967296
 t:r.t<4294967296
def zl (k:Int) (p:ByteArray):List Nat:=if k=2 then za p++[47] else za p
theorem qf (k:Int) (p:ByteArray) : ∀ x∈zl k p,x<256:=by
 unfold zl
 split
 · intro x hx; rcases List.mem_append.1 hx with h | h
   · exact zP p x h
   · simp at h; omega
 · exact zP p
theorem xp (k:Int) (p:ByteArray):(zl k p).length≤p.size+1:=by
 unfold zl
 split
 · simp [zc]
 · rw [zc]; omega
def yd (n:Int):Bool:=decide (0≤n)&&decide (n<2147483648)
def xj (r:RecD):Bool :=
 if (r.m≠0∧r.m≠8)∨yd r.l=false∨yd r.wh=false∨yd r.pos=false then false
 else if r.k=2 then decide (r.sum=0)&&decide (r.l=0)&&decide (r.wh=0)&&decide (r.m=0) else decide (r.m=8)||decide (r.l=r.wh)
def xq (k:Int) (t:Nat):Bool:=if k=2 then decide (t=2162688) else Jt t
def xM (r:RecD):Bool:=(zS (zl r.k r.p)).2.2&&decide ((zS (zl r.k r.p)).1=za r.p)&&decide (((zS (zl r.k r.p)).2.1:Int)=r.k)
def yt (r:RecD):Nat:=if xM r=false then 5 else if xj r=false then 2 else if r.md<0∨511<r.md then 12 else if xq r.k r.t=false then 13 else 0
end Go.Proofs.YtfkcdnaghndgfaaGreatDoor
namespace Go.Proofs.YtfkcdnaghndgfaaGreatDoor
open Go.RowKit
def leP:Nat→Nat→List Nat
 | _,0=>[]
 | n,k+1=>n%256::leP (n/256) k
def leG:List Nat→Nat
 | []=>0
 | x::t=>x+256*leG t
theorem zR : ∀ (k n:Nat),(leP n k).length=k
 | 0,_=>rfl
 | k+1,n=>by rw [leP,List.length_cons,zR k]
theorem zbM : ∀ (k n:Nat),∀ x∈leP n k,x<256
 | 0,_=>by intro x hx; simp [leP] at hx
 | k+1,n=>by
   intro x hx
   rw [leP] at hx
   rcases List.mem_cons.1 hx with h | h
   · omega
   · exact zbM k _ x h
theorem WA : ∀ (k n:Nat),leP n (k+1)=leP n k++[n/256^k%256]
 | 0,n=>by simp [leP]
 | k+1,n=>by
   rw [leP,WA k (n/256),leP,List.cons_append,Nat.div_div_eq_div_mul,Nat.pow_succ,Nat.mul_comm 256]
theorem zgd : ∀ (l:List Nat),(∀ x∈l,x<256)→leG l<256^l.length
 | [],_=>by simp [leG]
 | x::t,h=>by
   have h1:=h x (by simp)
   have h2:=zgd t fun y hy=>h y (by simp [hy])
   rw [leG,List.length_cons,Nat.pow_succ]; omega
theorem zde : ∀ (k n:Nat),leG (leP n k)=n%256^k
 | 0,n=>by simp [leP,leG,Nat.mod_one]
 | k+1,n=>by
   rw [leP,leG,zde k,Nat.pow_succ,Nat.mul_comm (256^k) 256,Nat.mod_mul]
theorem KP : ∀ (l:List Nat),(∀ x∈l,x<256)→leP (leG l) l.length=l
 | [],_=>rfl
 | x::t,h=>by
   have h1:=h x (by simp)
   have h2:=KP t fun y hy=>h y (by simp [hy])
   rw [leG,List.length_cons,leP,show (x+256*leG t)%256=x by omega,show (x+256*leG t)/256=leG t by omega,h2]
structure RS where
 s:ByteArray
 p:Nat
 bad:Bool
def RS.cells (r:RS):List Value:=[.string r.s,.int .i64 (r.p:Nat),.bool r.bad]
def RS.l (r:RS):List Nat:=za r.s
def RS.text (r:RS) (n:Nat):List Nat×RS :=
 if r.bad=true then ([],r) else if r.s.size-r.p<n then ([],⟨r.s,r.p,true⟩) else ((r.l.drop r.p).take n,⟨r.s,r.p+n,false⟩)
def RS.num (r:RS) (k:Nat):Nat×RS:=(leG (r.text k).1,(r.text k).2)
theorem RS.text_fine {s:ByteArray} {p:Nat} (n:Nat) (h:n≤s.size-p):(⟨s,p,false⟩:RS).text n=(((za s).drop p).take n,⟨s,p+n,false⟩):=by
 unfold RS.text; rw [if_neg (by simp),if_neg (by dsimp only; omega)]; rfl
end Go.Proofs.YtfkcdnaghndgfaaGreatDoor
namespace Go.Proofs.YtfkcdnaghndgfaaGreatDoor
open Go.RowKit
def gN (s:ByteArray) (i k:Nat):Nat:=leG (((za s).drop i).take k)
theorem zgc (s:ByteArray) (i k:Nat):gN s i k<256^k:=by
 unfold gN
 refine Nat.lt_of_lt_of_le (zgd _ fun x hx=>zP s x (List.mem_of_mem_drop (List.mem_of_mem_take hx))) (Nat.pow_le_pow_right (by omega) ?_)
 rw [List.length_take]; omega
theorem xS {s:ByteArray} {p:Nat} (k:Nat) (h:p+k≤s.size):(⟨s,p,false⟩:RS).num k=(gN s p k,⟨s,p+k,false⟩):=by
 unfold RS.num; rw [RS.text_fine k (by omega)]; rfl
structure HdD where
 beg:Nat
 flags:Nat
 m:Nat
 t:Nat
 sum:Nat
 l:Nat
 wh:Nat
 name:List Nat
def hdP (r:RS):HdD×RS :=
 let a:=r.num 4
 let b:=a.2.num 2
 let f:=b.2.num 2
 let m:=f.2.num 2
 let t:=m.2.num 4
 let u:=t.2.num 4
 let l:=u.2.num 4
 let wh:=l.2.num 4
 let n:=wh.2.num 2
 let mo:=n.2.num 2
 let nm:=mo.2.text n.1
 let sk:=nm.2.text mo.1
 (⟨a.1,f.1,m.1,t.1,u.1,l.1,wh.1,nm.1⟩,sk.2)
def vY (s:ByteArray):Nat:=30+gN s 26 2+gN s 28 2
theorem WK (s:ByteArray) (h30:30≤s.size) (h:vY s≤s.size) :
 hdP ⟨s,0,false⟩=(⟨gN s 0 4,gN s 6 2,gN s 8 2,gN s 10 4,gN s 14 4,gN s 18 4,gN s 22 4,((za s).drop 30).take (gN s 26 2)⟩,⟨s,vY s,false⟩):=by
 unfold vY at h ⊢
 unfold hdP
 simp only [xS 4 (show 0+4≤s.size by omega),xS 2 (show 4+2≤s.size by omega),xS 2 (show 6+2≤s.size by omega),xS 2 (show 8+2≤s.size by omega),xS 4 (show 10+4≤s.size by omega),xS 4 (show 14+4≤s.size by omega),xS 4 (show 18+4≤s.size by omega),xS 4 (show 22+4≤s.size by omega),xS 2 (show 26+2≤s.size by omega),xS 2 (show 28+2≤s.size by omega),Nat.zero_add,Nat.reduceAdd]
 rw [RS.text_fine _ (by omega)]
 dsimp only
 rw [RS.text_fine _ (by omega)]
end Go.Proofs.YtfkcdnaghndgfaaGreatDoor
namespace Go.Proofs.YtfkcdnaghndgfaaGreatDoor
open Go.RowKit
def yx (r:RecD):List Nat:=[80,75,3,4,20,0,0,8]++(leP r.m.toNat 2++(leP r.t 4++(leP r.sum 4++(leP r.l.toNat 4++(leP r.wh.toNat 4++(leP (zl r.k r.p).length 2++([0,0]++zl r.k r.p)))))))
def Ks (r:RecD):List Nat:=if yt r=0 then yx r else []
theorem qz (r:RecD):(yx r).length=30+(zl r.k r.p).length:=by simp [yx,zR]; omega
theorem Yt (r:RecD) : ∀ x∈yx r,x<256:=by
 intro x hx
 simp only [yx,List.mem_append] at hx
 rcases hx with h | h | h | h | h | h | h | h | h
 · simp at h; omega
 all_goals first
  | exact zbM _ _ x h
  | exact qf _ _ x h
  | (simp at h; omega)
theorem kY {s:ByteArray} {a c:List Nat} {n k i:Nat} (h:za s=a++(leP n k++c)) (hi:a.length=i):gN s i k=n%256^k:=by
 unfold gN
 rw [h,← hi,List.drop_left,List.take_left' (zR k n),zde]
def jc:RecD:=⟨.empty,0,0,0,0,0,0,0,0⟩
def ziI (h:HdD) (a:Nat):RecD:=⟨zd (zS h.name).1,h.m,h.sum,h.l,h.wh,((zS h.name).2.1:Nat),0,h.t,a⟩
def Xv (h:HdD):Bool:=(decide (h.beg=67324752)&&(decide (h.flags=2048)||decide (h.flags=2056))&&(decide (h.m=0)||decide (h.m=8)))&&(decide (h.flags=2048)||(decide (h.sum=0)&&decide (h.l=0)&&decide (h.wh=0)))
def Xa (x:ByteArray) (a:Nat):RecD×Nat×Bool×Nat :=
 if x.size<30∨x.size<vY x then (jc,0,false,3)
 else if Xv (hdP ⟨x,0,false⟩).1=false then (jc,0,false,2)
 else if (zS (hdP ⟨x,0,false⟩).1.name).2.2=false then (jc,0,false,5)
 else if xq ((zS (hdP ⟨x,0,false⟩).1.name).2.1:Nat) (hdP ⟨x,0,false⟩).1.t=false then (jc,0,false,13)
 else (ziI (hdP ⟨x,0,false⟩).1 a,vY x,decide ((hdP ⟨x,0,false⟩).1.flags=2056),0)
def zp (s:ByteArray) (a:Int):RecD×Nat×Bool×Nat :=
 if a<0∨(s.size:Int)<a then (jc,0,false,3) else Xa (s.extract a.toNat s.size) a.toNat
theorem jm {r:RecD} (h:yt r=0):xM r=true∧xj r=true ∧ ¬ (r.md<0∨511<r.md)∧xq r.k r.t=true:=by
 unfold yt at h
 split at h
 · cases h
 rename_i h1
 split at h
 · cases h
 rename_i h2
 split at h
 · cases h
 rename_i h3
 split at h
 · cases h
 rename_i h4
 exact ⟨by simpa using h1,by simpa using h2,h3,by simpa using h4⟩
theorem QF {n:Int} (h:yd n=true):0≤n∧n<2147483648:=by
 unfold yd at h
 rw [Bool.and_eq_true,decide_eq_true_eq,decide_eq_true_eq] at h; exact h
theorem Zo {r:RecD} (h:xj r=true):(r.m=0∨r.m=8)∧(0≤r.l∧r.l<2147483648)∧(0≤r.wh∧r.wh<2147483648)∧(0≤r.pos∧r.pos<2147483648):=by
 unfold xj at h
 split at h
 · cases h
 rename_i h1
 have hm:r.m=0∨r.m=8:=by
  by_cases h0:r.m=0
  · exact .inl h0
  · by_cases h8:r.m=8
    · exact .inr h8
    · exact absurd (.inl ⟨h0,h8⟩) h1
 refine ⟨hm,?_,?_,?_⟩
 · exact QF (by cases hb:yd r.l with | true=>rfl | false=>exact absurd (.inr (.inl hb)) h1)
 · exact QF (by cases hb:yd r.wh with | true=>rfl | false=>exact absurd (.inr (.inr (.inl hb))) h1)
 · exact QF (by cases hb:yd r.pos with | true=>rfl | false=>exact absurd (.inr (.inr (.inr hb))) h1)
theorem zbk {r:RecD} (h:xM r=true):(zS (zl r.k r.p)).2.2=true∧(zS (zl r.k r.p)).1=za r.p∧((zS (zl r.k r.p)).2.1:Int)=r.k:=by
 unfold xM at h
 rw [Bool.and_eq_true,Bool.and_eq_true,decide_eq_true_eq,decide_eq_true_eq] at h
 exact ⟨h.1.1,h.1.2,h.2⟩
end Go.Proofs.YtfkcdnaghndgfaaGreatDoor
namespace Go.Proofs.YtfkcdnaghndgfaaGreatDoor
open Go.RowKit
def Qs (x:ByteArray):Nat×Nat×Nat×Nat×Bool :=
 if x.size<12∨(gN x 0 4=134695760∧x.size<16) then (0,0,0,0,false)
 else if gN x 0 4=134695760 then (gN x 4 4,gN x 8 4,gN x 12 4,16,true) else (gN x 0 4,gN x 4 4,gN x 8 4,12,true)
def qT (s:ByteArray) (a:Int):Nat×Nat×Nat×Nat×Bool:=if a<0∨(s.size:Int)<a then (0,0,0,0,false) else Qs (s.extract a.toNat s.size)
end Go.Proofs.YtfkcdnaghndgfaaGreatDoor
namespace Go.Proofs.YtfkcdnaghndgfaaGreatDoor
def yG (x:Nat):Nat:=if x%2=1 then (x/2) ^^^ 3988292384 else x/2
def jQ:Nat→Nat→Nat
 | 0,x=>x
 | k+1,x=>jQ k (yG x)
def qx (s b:Nat):Nat:=if (s+b)%2=1 then (s/2) ^^^ 3988292384 else s/2
def zeu:Nat→Nat→Nat→Nat
 | 0,s,_=>s
 | k+1,s,n=>zeu k (qx s (n%2)) (n/2)
def xW (s b:Nat):Nat:=jQ 8 (s ^^^ b)
def yN (s:Nat) (l:List Nat):Nat:=l.foldl xW s
theorem zdt (a b:Nat):(a ^^^ b)%2=(a+b)%2:=by
 have h:=Nat.xor_mod_two_pow (a:=a) (b:=b) (n:=1)
 rw [Nat.pow_one] at h
 rw [h]
 rcases (by omega:a%2=0∨a%2=1) with h1 | h1<;>rcases (by omega:b%2=0∨b%2=1) with h2 | h2<;>rw [h1,h2]<;>simp<;>omega
theorem za2 (a b:Nat):(a ^^^ b)/2=(a/2) ^^^ (b/2):=by
 rw [Nat.xor_div_two]
theorem XM {x:Nat} (h:x<4294967296):yG x<4294967296:=by
 unfold yG
 split
 · exact Nat.xor_lt_two_pow (n:=32) (by omega) (by omega)
 · omega
theorem Kc : ∀ (k:Nat) {x:Nat},x<4294967296→jQ k x<4294967296
 | 0,_,h=>h
 | k+1,_,h=>Kc k (XM h)
theorem zdX (s n:Nat):qx s (n%2) ^^^ (n/2)=yG (s ^^^ n):=by
 unfold qx yG
 rw [zdt,za2,show (s+n%2)%2=(s+n)%2 by omega]
 split
 · rw [Nat.xor_assoc,Nat.xor_comm 3988292384,← Nat.xor_assoc]
 · rfl
theorem zdl : ∀ (k s n:Nat),n<2^k→zeu k s n=jQ k (s ^^^ n)
 | 0,s,n,h=>by
   have:n=0:=by simpa using h
   subst this
   show s=s ^^^ 0
   rw [Nat.xor_zero]
 | k+1,s,n,h=>by
   show zeu k (qx s (n%2)) (n/2)=jQ k (yG (s ^^^ n))
   rw [zdl k _ _ (by rw [Nat.pow_succ] at h; omega),zdX]
theorem YR (x z:Nat):yG (x ^^^ (2*z))=yG x ^^^ z:=by
 unfold yG
 rw [zdt,za2,show (x+2*z)%2=x%2 by omega,show 2*z/2=z by omega]
 split
 · rw [Nat.xor_assoc,Nat.xor_comm z,← Nat.xor_assoc]
 · rfl
theorem Vk : ∀ (k x y:Nat),jQ k (x ^^^ (2^k*y))=jQ k x ^^^ y
 | 0,x,y=>by simp [jQ]
 | k+1,x,y=>by
   show jQ k (yG (x ^^^ (2^(k+1)*y)))=jQ k (yG x) ^^^ y
   rw [show 2^(k+1)*y=2*(2^k*y) by rw [Nat.pow_succ,Nat.mul_comm (2^k) 2,Nat.mul_assoc],YR,Vk k]
theorem zd9 (s:Nat):(s%256) ^^^ (2^8*(s/256))=s:=by
 apply Nat.eq_of_testBit_eq
 intro i
 have h:=Nat.testBit_two_pow_mul_add (s/256) (i:=8) (b:=s%256) (by omega) i
 rw [show 2^8*(s/256)+s%256=s by omega] at h
 rw [Nat.testBit_xor,Nat.testBit_two_pow_mul,h]
 by_cases hi:i<8
 · rw [decide_eq_false (show ¬ i≥8 by omega),if_pos hi]; simp
 · have h0:(s%256).testBit i=false:=Nat.testBit_lt_two_pow (Nat.lt_of_lt_of_le (Nat.mod_lt s (by omega)) (show 256≤2^i from Nat.pow_le_pow_right (n:=2) (by omega) (show 8≤i by omega)))
   rw [decide_eq_true (show i≥8 by omega),if_neg hi,h0]; simp
theorem zfv (s b:Nat):jQ 8 ((s%256) ^^^ b) ^^^ (s/256)=xW s b:=by
 unfold xW
 have e:s ^^^ b=((s%256) ^^^ b) ^^^ (2^8*(s/256)):=by
  rw [Nat.xor_assoc,Nat.xor_comm b,← Nat.xor_assoc,zd9]
 rw [e,Vk]
theorem JL {s b:Nat} (hs:s<4294967296) (hb:b<256):xW s b<4294967296:=Kc 8 (Nat.xor_lt_two_pow (n:=32) hs (by omega))
theorem Jy : ∀ (l:List Nat) {s:Nat},s<4294967296→(∀ x∈l,x<256)→yN s l<4294967296
 | [],_,h,_=>h
 | x::l,_,h,hl=>Jy l (JL h (hl x (by simp))) (fun y hy=>hl y (by simp [hy]))
theorem Qi (s:Nat) (l:List Nat) (x:Nat):yN s (l++[x])=xW (yN s l) x:=by simp [yN]
def xa (s:ByteArray):Nat:=4294967295-yN 4294967295 (za s)
end Go.Proofs.YtfkcdnaghndgfaaGreatDoor
namespace Go.Proofs.YtfkcdnaghndgfaaGreatDoor
open Go.RowKit
def ofT:Except Nat (List Nat×Nat)→ByteArray×Nat×Nat
 | .ok (out,a)=>(zd out,(a+7)/8,0)
 | .error c=>(⟨#[]⟩,0,c)
theorem zcY (r:Except Nat (List Nat×Nat)):zc8 r = .tuple #[.string (ofT r).1,.int .i64 ((ofT r).2.1:Nat),.int .i64 ((ofT r).2.2:Nat)]:=by
 cases r with
 | ok x=>rfl
 | error c=>rfl
def XA (h r:RecD):Bool:=decide (h.p=r.p∧h.m=r.m∧h.k=r.k∧h.t=r.t∧h.pos=r.pos)
def vz (s:ByteArray) (h r:RecD) (f:Int) (b:Bool):Nat×Nat :=
 if b=true then
  (if (qT s (f+r.l)).2.2.2.2=false then (0,3)
  else if (qT s (f+r.l)).1≠r.sum∨((qT s (f+r.l)).2.1:Int)≠r.l∨((qT s (f+r.l)).2.2.1:Int)≠r.wh then (0,2) else ((qT s (f+r.l)).2.2.2.1,0))
 else if h.sum≠r.sum∨h.l≠r.l∨h.wh≠r.wh then (0,2) else (0,0)
def Yk (d:ByteArray) (r:RecD):ByteArray×Nat :=
 if 65000<r.wh then (⟨#[]⟩,4) else if (d.size:Int)≠r.wh then (⟨#[]⟩,2) else if r.k=1∧xa d≠r.sum then (⟨#[]⟩,11) else (d,0)
def qB (d:ByteArray) (r:RecD):ByteArray×Nat :=
 if r.m=8 then (if (ofT (ofP d r.wh)).2.2≠0 then (⟨#[]⟩,(ofT (ofP d r.wh)).2.2) else if (ofT (ofP d r.wh)).2.1≠d.size then (⟨#[]⟩,2) else Yk (ofT (ofP d r.wh)).1 r) else Yk d r
def qt (s:ByteArray) (r:RecD):ByteArray×Int×Nat :=
 if yt r≠0 then (⟨#[]⟩,0,1)
 else if (zp s r.pos).2.2.2≠0 then (⟨#[]⟩,0,(zp s r.pos).2.2.2)
 else if XA (zp s r.pos).1 r=false then (⟨#[]⟩,0,2)
 else if (vz s (zp s r.pos).1 r (r.pos+(zp s r.pos).2.1) (zp s r.pos).2.2.1).2≠0 then (⟨#[]⟩,0,(vz s (zp s r.pos).1 r (r.pos+(zp s r.pos).2.1) (zp s r.pos).2.2.1).2)
 else if (s.size:Int)-(r.pos+(zp s r.pos).2.1)<r.l then (⟨#[]⟩,0,3)
 else if (qB (s.extract (r.pos+(zp s r.pos).2.1).toNat (r.pos+(zp s r.pos).2.1+r.l).toNat) r).2≠0 then (⟨#[]⟩,0,(qB (s.extract (r.pos+(zp s r.pos).2.1).toNat (r.pos+(zp s r.pos).2.1+r.l).toNat) r).2)
 else ((qB (s.extract (r.pos+(zp s r.pos).2.1).toNat (r.pos+(zp s r.pos).2.1+r.l).toNat) r).1,(zp s r.pos).2.1+r.l+(vz s (zp s r.pos).1 r (r.pos+(zp s r.pos).2.1) (zp s r.pos).2.2.1).1,0)
def ziC (x:ByteArray×Int×Nat):Value := .tuple #[.string x.1,.int .i64 x.2.1,.int .i64 (x.2.2:Nat)]
theorem VR {r:RecD} (h:yt r=0):(0≤r.l∧r.l<2147483648)∧(0≤r.wh∧r.wh<2147483648)∧(0≤r.pos∧r.pos<2147483648)∧(r.k=1∨r.k=2∧r.sum=0∧r.l=0∧r.wh=0∧r.m=0):=by
 obtain ⟨h1,h2,-,-⟩:=jm h
 unfold xj at h2
 split at h2
 · cases h2
 rename_i h3
 simp only [not_or,yd,Bool.not_eq_false,Bool.and_eq_true,decide_eq_true_eq] at h3
 refine ⟨h3.2.1,h3.2.2.1,h3.2.2.2,?_⟩
 unfold xM at h1
 simp only [Bool.and_eq_true,decide_eq_true_eq] at h1
 have hk:=h1.2
 have hp:=h1.1.1
 by_cases h5:r.k=2
 · rw [if_pos h5] at h2
   simp only [Bool.and_eq_true,decide_eq_true_eq] at h2
   exact .inr ⟨h5,h2.1.1.1,h2.1.1.2,h2.1.2,h2.2⟩
 · left
   unfold zS at hk hp
   repeat' split at hk
   all_goals simp_all
   all_goals omega
theorem zdK {s:ByteArray} {a:Int} (h:(zp s a).2.2.2=0):(zp s a).1.pos=a∧(zp s a).2.1≤s.size∧0≤a∧a+(zp s a).2.1≤s.size:=by
 unfold zp at h ⊢
 split at h
 · cases h
 rename_i h1
 rw [if_neg h1]
 have hz:(s.extract a.toNat s.size).size=s.size-a.toNat:=by rw [ByteArray.size_extract]; omega
 unfold Xa at h ⊢
 split at h
 · cases h
 rename_i h2
 rw [if_neg h2]
 repeat' split at h
 all_goals first | (cases h; done) | skip
 rename_i h3 h4 h5
 rw [if_neg h3,if_neg h4,if_neg h5]
 refine ⟨?_,?_,?_,?_⟩
 · show ((a.toNat:Nat):Int)=a; omega
 · show vY _≤_; omega
 · omega
 · show a+((vY _:Nat):Int)≤_; omega
theorem zfW (s:ByteArray) (h r:RecD) (f:Int) (b:Bool):(vz s h r f b).1≤16:=by
 have h1:(qT s (f+r.l)).2.2.2.1≤16:=by
  unfold qT Qs
  repeat' split
  all_goals (dsimp only; omega)
 unfold vz
 repeat' split
 all_goals first | exact Nat.zero_le _ | exact h1
end Go.Proofs.YtfkcdnaghndgfaaGreatDoor
namespace Go.Proofs.YtfkcdnaghndgfaaGreatDoor
open Go.RowKit
theorem zio (r:RecD) (x:ByteArray) (d:List Nat) (hx:za x=[80,75,3,4,20,0,0,8]++(leP r.m.toNat 2++(leP r.t 4++(leP r.sum 4++(leP r.l.toNat 4++(leP r.wh.toNat 4++(leP (zl r.k r.p).length 2++([0,0]++d)))))))) :
 gN x 0 4=67324752∧gN x 6 2=2048∧gN x 8 2=r.m.toNat%65536∧gN x 10 4=r.t%4294967296∧gN x 14 4=r.sum%4294967296∧gN x 18 4=r.l.toNat%4294967296∧gN x 22 4=r.wh.toNat%4294967296∧gN x 26 2=(zl r.k r.p).length%65536∧gN x 28 2=0:=by
 have hz:([0,0]:List Nat)=leP 0 2:=rfl
 have hb:([80,75,3,4,20,0,0,8]:List Nat)=leP 67324752 4++(leP 20 2++leP 2048 2):=by decide
 rw [hz,hb] at hx
 refine ⟨?_,?_,?_,?_,?_,?_,?_,?_,?_⟩
 · rw [kY (i:=0) (a:=[]) (k:=4) (n:=67324752) (c:=_) (by rw [hx,List.nil_append,List.append_assoc]) rfl]
 · rw [kY (a:=leP 67324752 4++leP 20 2) (k:=2) (n:=2048) (c:=_) (by rw [hx]; simp only [List.append_assoc]; rfl) (by simp [zR])]
 · rw [kY (a:=leP 67324752 4++(leP 20 2++leP 2048 2)) (k:=2) (n:=r.m.toNat) (c:=_) (by rw [hx]) (by simp [zR])]
 · rw [kY (a:=leP 67324752 4++(leP 20 2++leP 2048 2)++leP r.m.toNat 2) (k:=4) (n:=r.t) (c:=_) (by rw [hx]; simp only [List.append_assoc]; rfl) (by simp [zR])]
 · rw [kY (a:=leP 67324752 4++(leP 20 2++leP 2048 2)++(leP r.m.toNat 2++leP r.t 4)) (k:=4) (n:=r.sum) (c:=_) (by rw [hx]; simp only [List.append_assoc]; rfl) (by simp [zR])]
 · rw [kY (a:=leP 67324752 4++(leP 20 2++leP 2048 2)++(leP r.m.toNat 2++(leP r.t 4++leP r.sum 4))) (k:=4) (n:=r.l.toNat) (c:=_) (by rw [hx]; simp only [List.append_assoc]; rfl) (by simp [zR])]
 · rw [kY (a:=leP 67324752 4++(leP 20 2++leP 2048 2)++(leP r.m.toNat 2++(leP r.t 4++(leP r.sum 4++leP r.l.toNat 4)))) (k:=4) (n:=r.wh.toNat) (c:=_) (by rw [hx]; simp only [List.append_assoc]; rfl) (by simp [zR])]
 · rw [kY (a:=leP 67324752 4++(leP 20 2++leP 2048 2)++(leP r.m.toNat 2++(leP r.t 4++(leP r.sum 4++(leP r.l.toNat 4++leP r.wh.toNat 4))))) (k:=2) (n:=(zl r.k r.p).length) (c:=_) (by rw [hx]; simp only [List.append_assoc]; rfl) (by simp [zR])]
 · rw [kY (a:=leP 67324752 4++(leP 20 2++leP 2048 2)++(leP r.m.toNat 2++(leP r.t 4++(leP r.sum 4++(leP r.l.toNat 4++(leP r.wh.toNat 4++leP (zl r.k r.p).length 2)))))) (k:=2) (n:=0) (c:=_) (by rw [hx]; simp only [List.append_assoc]; rfl) (by simp [zR])]
theorem zhy (r:RecD) (c:List Nat):yx r++c=[80,75,3,4,20,0,0,8]++(leP r.m.toNat 2++(leP r.t 4++(leP r.sum 4++(leP r.l.toNat 4++(leP r.wh.toNat 4++(leP (zl r.k r.p).length 2++([0,0]++(zl r.k r.p++c)))))))):=by
 unfold yx; simp only [List.append_assoc]
theorem zct (r:RecD) (x:ByteArray) (c:List Nat) (a:Nat) (hf:r.Fits) (hr:yt r=0) (hx:za x=yx r++c):Xa x a=(⟨r.p,r.m,r.sum,r.l,r.wh,r.k,0,r.t,a⟩,30+(zl r.k r.p).length,false,0):=by
 have hl:=xp r.k r.p
 have hp:=hf.p
 obtain ⟨h1,h2,h3,h4⟩:=jm hr
 obtain ⟨n1,n2,n3⟩:=zbk h1
 obtain ⟨pm,pl,pw,pa⟩:=Zo h2
 have hs:x.size=30+(zl r.k r.p).length+c.length:=by rw [← zc,hx,List.length_append,qz]
 have hx2:=hx
 rw [zhy] at hx2
 obtain ⟨g0,g6,g8,g10,g14,g18,g22,g26,g28⟩:=zio r x _ hx2
 rw [Nat.mod_eq_of_lt (by omega)] at g8 g18 g22 g26
 rw [Nat.mod_eq_of_lt hf.t] at g10
 rw [Nat.mod_eq_of_lt hf.sum] at g14
 have hh:vY x=30+(zl r.k r.p).length:=by unfold vY; rw [g26,g28,Nat.add_zero]
 have hnm:((za x).drop 30).take (gN x 26 2)=zl r.k r.p:=by
  rw [g26,hx]
  have e:yx r++c=([80,75,3,4,20,0,0,8]++(leP r.m.toNat 2++(leP r.t 4++(leP r.sum 4++(leP r.l.toNat 4++(leP r.wh.toNat 4++(leP (zl r.k r.p).length 2++[0,0])))))))++(zl r.k r.p++c):=by unfold yx; simp only [List.append_assoc]
  rw [e,List.drop_left' (by simp [zR]),List.take_left' rfl]
 have hd:=WK x (by omega) (by omega)
 rw [hnm,g0,g6,g8,g10,g14,g18,g22] at hd
 unfold Xa
 rw [if_neg (by omega),hd]
 dsimp only
 have hform:Xv ⟨67324752,2048,r.m.toNat,r.t,r.sum,r.l.toNat,r.wh.toNat,zl r.k r.p⟩=true:=by
  unfold Xv
  simp
  omega
 rw [hform,if_neg (by simp),n1,if_neg (by simp),n3,h4,if_neg (by simp),hh]
 unfold ziI
 dsimp only
 rw [n2,n3,zu,Int.toNat_of_nonneg pl.1,Int.toNat_of_nonneg pw.1,Int.toNat_of_nonneg (by omega)]
 rfl
end Go.Proofs.YtfkcdnaghndgfaaGreatDoor
namespace Go.Proofs.YtfkcdnaghndgfaaGreatDoor
open Go.RowKit
def BackP (S X:ByteArray):Prop := ∀ most:Int,S.size≤XQ most→ofP X most = .ok (za S,8*X.size) ∨ ∃ m:Nat,ofP X most = .ok (za S,m)∧(m+7)/8=X.size
theorem BackP.val {S X:ByteArray} (h:BackP S X) (most:Int) (hm:S.size≤XQ most):zc8 (ofP X most) = .tuple #[.string S,.int .i64 (X.size:Nat),.int .i64 0]:=by
 rcases h most hm with e | ⟨m,e,hx⟩
 · rw [e]
   show Value.tuple #[.string (zd (za S)),.int .i64 (((8*X.size+7)/8:Nat):Int),.int .i64 0]=_
   rw [zu,show (8*X.size+7)/8=X.size by omega]
 · rw [e]
   show Value.tuple #[.string (zd (za S)),.int .i64 (((m+7)/8:Nat):Int),.int .i64 0]=_
   rw [zu,hx]
end Go.Proofs.YtfkcdnaghndgfaaGreatDoor
