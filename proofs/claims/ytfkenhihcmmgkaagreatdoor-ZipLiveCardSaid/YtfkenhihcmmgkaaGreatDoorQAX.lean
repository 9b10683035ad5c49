/- Package inflate: what other bytes, or other room, turn: plain. -/
import Derived.Test.YtfkenhihcmmgkaaGreatDoorQAK
set_option linter.unusedVariables false
set_option linter.unusedSimpArgs false
set_option linter.unusedSectionVars false
set_option maxRecDepth 100000
set_option maxHeartbeats 12800000
namespace Go.Proofs.YtfkenhihcmmgkaaGreatDoor
open Go.RowKit
structure Agree (N:Nat) (s s':ByteArray):Prop where
 le:N≤s.size
 le':N≤s'.size
 eq:(zf s).take N=(zf s').take N
theorem ZX (a b:List Nat):yc (a++b)=yc a++yc b:=by simp [yc]
theorem vQ (l:List Nat) (N:Nat) (h:N≤l.length):(yc l).take (8*N)=yc (l.take N):=by
 have e:yc l=yc (l.take N)++yc (l.drop N):=by rw [← ZX,List.take_append_drop]
 rw [e,List.take_left'];rw [jh,List.length_take]; omega
theorem Agree.bits {N:Nat} {s s':ByteArray} (h:Agree N s s'):(vz s).take (8*N)=(vz s').take (8*N):=by
 unfold vz;rw [vQ _ _ (by rw [zi]; exact h.le),vQ _ _ (by rw [zi]; exact h.le'),h.eq]
def Tr {α:Type} (N:Nat) (s':ByteArray) (r r':Except Nat (α×Nat)):Prop :=
 ∀ v a',r = .ok (v,a')→(a'≤8*N→r' = .ok (v,a'))∧(N=s'.size→8*N<a'→r' = .error 3)
theorem Tr.bind {α β:Type} {N:Nat} {s':ByteArray} {x x':Except Nat (α×Nat)} {f f':α×Nat→Except Nat (β×Nat)} (hx:Tr N s' x x')
 (hf : ∀ v a1,x = .ok (v,a1)→a1≤8*N→Tr N s' (f (v,a1)) (f' (v,a1))) (hm : ∀ v a1 u a2,x = .ok (v,a1)→f (v,a1) = .ok (u,a2)→a1≤a2):Tr N s' (x >>= f) (x' >>= f'):=by
 intro u a2 h;obtain ⟨⟨v,a1⟩,h1,h2⟩:=yr h;have hle:=hm v a1 u a2 h1 h2;obtain ⟨e1,e2⟩:=hx v a1 h1;by_cases hc:a1≤8*N
 · rw [e1 hc];exact hf v a1 h1 hc u a2 h2
 · refine ⟨fun h=>by omega,fun hN _=>?_⟩;rw [e2 hN (by omega)]; rfl
theorem Tr.map {α β:Type} {N:Nat} {s':ByteArray} {x x':Except Nat (α×Nat)} {f:α×Nat→β×Nat} (hx:Tr N s' x x') (hf : ∀ r,(f r).2=r.2):Tr N s' (x.map f) (x'.map f):=by
 intro u a2 h;obtain ⟨⟨v,a1⟩,h1,h2⟩:=Ww h;obtain ⟨e1,e2⟩:=hx v a1 h1;have:=hf (v,a1);rw [h2] at this;simp only at this;subst this;refine ⟨fun h=>?_,fun hN hlt=>?_⟩
 · rw [e1 h]; show Except.ok (f (v,a2))=_; rw [h2]
 · rw [e2 hN hlt]; rfl
section
variable {N:Nat} {s s':ByteArray} (hA:Agree N s s')
include hA
end
theorem Tr.pure {α:Type} {N:Nat} {s':ByteArray} {v:α} {a:Nat} (ha:a≤8*N):Tr N s' (.ok (v,a)) (.ok (v,a)):=by
 intro u a2 h;cases h;exact ⟨fun _=>rfl,fun _ h=>by omega⟩
section
variable {N:Nat} {s s':ByteArray} (hA:Agree N s s')
include hA
omit hA in
theorem Vj (l:List Int) (t:ByteArray) (many f:Nat) (L:List Nat) (a:Nat) (h:L.length<many):qq l t many (f+1) L a=yk l t a >>= fun r=>xV t r.1 L r.2 >>= fun q=>if q.1.1≤many-L.length then qq l t many f (L++List.replicate q.1.1 q.1.2) q.2 else .error 2:=by
 simp only [qq];rw [if_pos h];cases yk l t a with
 | error c=>rfl
 | ok r =>
   show (match xV t r.1 L r.2 with | .error c=>_ | .ok q=>_)=(xV t r.1 L r.2 >>= _);cases xV t r.1 L r.2 with
   | error c=>rfl
   | ok q=>rfl
omit hA in
theorem zaY (t:ByteArray) (m i:Nat) (L:List Nat) (a:Nat):xt t (m+1) i L a=zu t a 3 >>= fun r=>xt t m (i+1) (L.set (yv.getD i 0) r.1) r.2:=by
 simp only [xt];cases zu t a 3<;>rfl
end
def Rm {α:Type} (len:α→Nat) (m:Nat) (r r':Except Nat α):Prop := ∀ v,r = .ok v→(len v≤m→r' = .ok v)∧(m<len v→r' = .error 4)
theorem Rm.pure {α:Type} {len:α→Nat} {m:Nat} {v:α} (h:len v≤m):Rm len m (.ok v) (.ok v):=fun u e=>by cases e; exact ⟨fun _=>rfl,fun h=>by omega⟩
theorem Rm.same {α β:Type} {len:β→Nat} {m:Nat} {x:Except Nat α} {f f':α→Except Nat β} (h : ∀ v,x = .ok v→Rm len m (f v) (f' v)):Rm len m (x >>= f) (x >>= f'):=by
 intro u e;obtain ⟨v,h1,h2⟩:=yr e;rw [h1];exact h v h1 u h2
theorem Rm.bind {α β:Type} {len:α→Nat} {len':β→Nat} {m:Nat} {x x':Except Nat α} {f f':α→Except Nat β} (hx:Rm len m x x') (hf : ∀ v,x = .ok v→len v≤m→Rm len' m (f v) (f' v))
 (hm : ∀ v u,x = .ok v→f v = .ok u→len v≤len' u):Rm len' m (x >>= f) (x' >>= f'):=by
 intro u e;obtain ⟨v,h1,h2⟩:=yr e;have hle:=hm v u h1 h2;obtain ⟨e1,e2⟩:=hx v h1;by_cases hc:len v≤m
 · rw [e1 hc]; exact hf v h1 hc u h2
 · refine ⟨fun h=>by omega,fun _=>?_⟩;rw [e2 (by omega)]; rfl
def Er {α:Type} (r:Except Nat α):Prop := ∀ c,r = .error c→2≤c∧c≤4
theorem Er.ok {α:Type} {v:α}:Er (.ok v:Except Nat α):=fun c h=>by cases h
theorem Er.error {α:Type} {k:Nat} (h:2≤k∧k≤4):Er (.error k:Except Nat α):=fun c e=>by cases e; exact h
theorem Er.bind {α β:Type} {x:Except Nat α} {f:α→Except Nat β} (hx:Er x) (hf : ∀ v,x = .ok v→Er (f v)):Er (x >>= f):=by
 intro c e;cases hc:x with
 | error k=>rw [hc] at e; cases e; exact hx _ hc
 | ok v=>rw [hc] at e; exact hf v hc c e
theorem Er.map {α β:Type} {x:Except Nat α} {f:α→β} (hx:Er x):Er (x.map f):=by
 intro c e;cases hc:x with
 | error k=>rw [hc] at e; cases e; exact hx _ hc
 | ok v=>rw [hc] at e; cases e
theorem jH {s:ByteArray} {a n:Nat}:Er (zu s a n):=by
 unfold zu; split
 · exact Er.ok
 · exact Er.error (by omega)
theorem zgM {l:List Int} {s:ByteArray} {a:Nat}:Er (yk l s a):=by
 unfold yk; split
 · exact Er.error (by omega)
 · split
   · exact Er.ok
   · exact Er.error (by omega)
   · exact Er.error (by omega)
theorem zjd {s:ByteArray} {k:Nat} {L:List Nat} {a:Nat}:Er (xV s k L a):=by
 unfold xV; split
 · unfold xj; split
   · split
     · exact Er.error (by omega)
     · exact jH.map
   · split
     · exact jH.map
     · exact jH.map
 · exact Er.ok
theorem zjc {l:List Int} {s:ByteArray} {many:Nat} : ∀ (f:Nat) (L:List Nat) (a:Nat),Er (qq l s many f L a):=by
 intro f
 induction f with
 | zero=>intro L a; exact Er.ok
 | succ f ih =>
   intro L a;by_cases hc:L.length<many
   · rw [Vj _ _ _ _ _ _ hc];refine zgM.bind fun r _=>zjd.bind fun q _=>?_;split
     · exact ih _ _
     · exact Er.error (by omega)
   · rw [YJ hc]; exact Er.ok
theorem zev {s:ByteArray} : ∀ (m i:Nat) (L:List Nat) (a:Nat),Er (xt s m i L a):=by
 intro m
 induction m with
 | zero=>intro i L a; exact Er.ok
 | succ m ih=>intro i L a; rw [zaY]; exact jH.bind fun r _=>ih _ _ _
theorem zbK {s:ByteArray} {a:Nat}:Er (yY s a):=by
 unfold yY;refine jH.bind fun r1 _=>jH.bind fun r2 _=>jH.bind fun r3 _=>?_;unfold xB; split
 · refine (zev _ _ _ _).bind fun r4 _=>?_;unfold qD; split
   · refine (zjc _ _ _).bind fun r5 _=>?_;unfold kj; split
     · split
       · exact Er.ok
       · exact Er.error (by omega)
     · exact Er.error (by omega)
   · exact Er.error (by omega)
 · exact Er.error (by omega)
theorem Zq (b:Nat) (w:World) (s:ByteArray) (a:Nat) (bad:Bool) (hR:RdAt w b 175 s a bad) (hs:s.size≤1099511627776) :
 Calls Tryz.prog 180 #[.pointer (some ⟨b,0,none⟩)] w
  (ve w b 175 s (.tuple #[]) (xG a bad) bad):=by
 cases bad with
 | true =>
   have h2:=hR.1.cell 2 rfl;go_enter Tryz.func180,Tryz.ntmps180;go_wp2;refine wp_loop_rounds 1 ?_;rw [rounds_succ];go_wp2;go_returns;exact ⟨rfl,hR,.refl _ _⟩
 | false =>
   have hal:xG a false=8*((a+7)/8):=rfl;have hle:=hR.2;rw [hal];go_enter Tryz.func180,Tryz.ntmps180;go_wp2;go_loopg [] (8*((a+7)/8)-a) (fun g wr => ∃ j,a+j≤8*((a+7)/8)∧g=8*((a+7)/8)-a-j∧Qp w b 175 s (a+j) wr)
   case atStart=>exact ⟨0,by omega,rfl,hR,.refl _ _⟩
   case round =>
    obtain ⟨j,hj,rfl,hRr,hU⟩:=hrel;have k1:=hRr.1.cell 1 rfl;have k2:=hRr.1.cell 2 rfl;have g1:=hRr.1.frz 1;obtain ⟨c,hc⟩ : ∃ c,c=a+j:=⟨_,rfl⟩;rw [← hc] at k1;have HC:=Hi hc;clear hc;by_cases hm:(a+j)%8=0
    · have hcz:(c:Int)%8=0:=(by have:=HC.out; omega);have hfin:a+j=8*((a+7)/8):=(by omega);rw [hfin] at hRr;have hb2:c≤8796093022208:=(by have:=HC.out; omega);clear hm hfin hj;go_wp2;go_returns;exact ⟨rfl,hRr,hU⟩
    · have hcz:((c:Int)%8==0)=false:=(by simp; have:=HC.out; omega);have hcz2:((c:Int)%8 != 0)=true:=(by simp; have:=HC.out; omega);have hb2:c≤8796093022208:=(by have:=HC.out; omega);go_wp2;go_roundg (8*((a+7)/8)-a-(j+1))
      case measure=>omega
      case rel =>
       refine ⟨j+1,by omega,rfl,?_,hU.setCell (.inl (by simp)) _⟩;have e:(c:Int)+1=((a+(j+1):Nat):Int):=(by have:=HC.out; omega);rw [e];exact ⟨hRr.1.set 1 _,by omega⟩
theorem zbM (b:Nat) (n:Int) (w:World) (s:ByteArray) (a:Nat) (bad:Bool) (hR:RdAt w b 175 s a bad) (hs:s.size≤1099511627776) :
 Calls Tryz.prog 182 #[.pointer (some ⟨b,0,none⟩),.int .i64 n] w
  (ve w b 175 s (.string (xC s a bad n)) (jv s a bad n) (xA s a bad n)):=by
 have HA:=Hi (Zq b w s a bad hR hs);have hal:=KY s a bad hR.2;cases bad with
 | true =>
   have e1:xA s a true n=true:=rfl;have e2:xC s a true n=⟨#[]⟩:=rfl;have e3:jv s a true n=xG a true:=rfl;rw [e1,e2,e3];generalize xG a true=a1 at *;go_enter Tryz.func182,Tryz.ntmps182;go_wp2_with fail
   refine HA.out.mono ?_;rintro e w' ⟨rfl,hR1,hU1⟩;have k2:=hR1.1.cell 2 rfl;have f2:=hR1.1.frz 2;go_wp2
   go_quiet (fail)
   go_wp2;go_returns;exact ⟨rfl,⟨(hR1.1.drewN _).set 2 _,hR1.2⟩,(hU1.drewN _).setCell (.inl (by simp)) _⟩
 | false =>
   have hq:(a+7)/8≤s.size:=(by have:=hR.2; omega);have ha1:xG a false=8*((a+7)/8):=rfl;have HBD:=Hi (fun (h:xA s a false n=true)=>(show xC s a false n=⟨#[]⟩∧jv s a false n=xG a false by unfold xC jv; rw [if_pos h,if_pos h]; exact ⟨rfl,rfl⟩));have HGD:=Hi (fun (h:xA s a false n=false)=>(show xC s a false n=s.extract ((a+7)/8) ((a+7)/8+n.toNat)∧jv s a false n=8*((a+7)/8)+8*n.toNat by unfold xC jv; rw [if_neg (by rw [h]; decide),if_neg (by rw [h]; decide)]; exact ⟨rfl,rfl⟩));have hTB:xA s a false n=(decide (n<0)||decide (((s.size-(a+7)/8:Nat):Int)<n)):=(by simp [xA]);generalize (a+7)/8=q at *;have HQ:=Hi ha1;clear ha1;generalize xG a false=a1 at *;have hdv2:((a1:Nat):Int)/8=(q:Int):=(by have:=HQ.out; omega);have ha1b:a1≤8796093022208:=(by omega);cases hb:xA s a false n with
   | true =>
     obtain ⟨e1,e2⟩:=HBD.out hb;rw [e1,e2];rw [hTB] at hb;simp only [Bool.or_eq_true,decide_eq_true_eq] at hb;clear e1 e2 hTB HBD HGD;by_cases hn:n<0
     · have d1:decide (n<0)=true:=(by simpa using hn);clear hb;go_enter Tryz.func182,Tryz.ntmps182;(go_wp2_with fail);refine HA.out.mono ?_;rintro e w' ⟨rfl,hR1,hU1⟩;have k2:=hR1.1.cell 2 rfl;have f2:=hR1.1.frz 2;go_wp2
       go_quiet (fail)
       go_wp2;go_returns;exact ⟨rfl,⟨(hR1.1.drewN _).set 2 _,hR1.2⟩,(hU1.drewN _).setCell (.inl (by simp)) _⟩
     · have d1:decide (n<0)=false:=(by simpa using hn);have hn2:(s.size:Int)-(q:Int)<n:=(by omega);have d2:decide ((s.size:Int)-(q:Int)<n)=true:=(by simpa using hn2);clear hb;go_enter Tryz.func182,Tryz.ntmps182;(go_wp2_with fail);refine HA.out.mono ?_;rintro e w' ⟨rfl,hR1,hU1⟩;have kA:=hR1.1.all;have k2:=hR1.1.cell 2 rfl;have f2:=hR1.1.frz 2;go_wp2
       go_quiet (fail)
       go_wp2;go_returns;exact ⟨rfl,⟨(hR1.1.drewN _).set 2 _,hR1.2⟩,(hU1.drewN _).setCell (.inl (by simp)) _⟩
   | false =>
     obtain ⟨e1,e2⟩:=HGD.out hb;rw [e1,e2];rw [hTB] at hb;simp only [Bool.or_eq_false_iff,decide_eq_false_iff_not] at hb;obtain ⟨hn0,hn1⟩:=hb;obtain ⟨N,rfl⟩ : ∃ N:Nat,n=(N:Int):=⟨n.toNat,by omega⟩;have hN:q+N≤s.size:=(by omega);have hNz:(q:Int)+(N:Int)≤(s.size:Int):=(by omega);rw [Int.toNat_natCast];have d1:decide ((N:Int)<0)=false:=(by simp);have d2:decide ((s.size:Int)-(q:Int)<(N:Int))=false:=(by simp; omega);clear e1 e2 hTB HBD HGD hn0 hn1;go_enter Tryz.func182,Tryz.ntmps182;(go_wp2_with fail);refine HA.out.mono ?_;rintro e w' ⟨rfl,hR1,hU1⟩;have kA:=hR1.1.all;have k2:=hR1.1.cell 2 rfl;have f1:=hR1.1.frz 1;go_wp2
     go_quiet (fail)
     go_wp2
     go_quiet (fail)
     go_wp2;go_returns;have e:(a1:Int)+8*(N:Int)=((8*q+8*N:Nat):Int):=(by have:=HQ.out; omega);rw [e];exact ⟨rfl,⟨(hR1.1.drewN _).set 1 _,by omega⟩,(hU1.drewN _).setCell (.inl (by simp)) _⟩
structure XAt (w:World) (bx br:Nat) (s:ByteArray) (why a:Nat) (O:ByteArray) (most:Nat):Prop where
 blk:Blk w bx [.pointer (some ⟨br,0,none⟩),.string O,.int .i64 (most:Nat),.int .i64 (why:Nat)] 177
 ne:bx≠br
 rd : ∃ bad,RdAt w br 175 s a bad∧(why=0→bad=false)
 le:a≤8*s.size
def Sp {α:Type} (TP:Except Nat α) (why:Nat) (rest:Except Nat α):Prop:=(why≠0∧TP = .error why)∨(why=0∧TP=rest)
def Wf (s:ByteArray) (why a n v why' a':Nat):Prop :=
 (why≠0∧v=0∧why'=why∧a'=a)∨(why=0∧zu s a n = .ok (v,a')∧why'=0)∨(why=0∧zu s a n = .error 3∧v=0∧why'=3∧a'=a)
def JY (why:Nat) (b:Bool) (why':Nat):Prop:=(why≠0∧why'=why)∨(why=0∧b=true∧why'=0)∨(why=0∧b=false∧why'=2)
def zd6 (l:List Int) (s:ByteArray) (why a v why' a':Nat):Prop :=
 (why≠0∧v=0∧why'=why∧a'=a)∨(why=0∧yk l s a = .ok (v,a')∧why'=0)∨(why=0∧v=0∧why'≠0∧yk l s a = .error why')
theorem Sp.take {α:Type} {TP:Except Nat α} {s:ByteArray} {why a n v why' a':Nat} {f:Nat×Nat→Except Nat α} (h:Sp TP why (zu s a n >>= f)) (ht:Wf s why a n v why' a'):Sp TP why' (f (v,a')):=by
 rcases h with ⟨h1,h2⟩ | ⟨h1,h2⟩
 · rcases ht with ⟨_,_,h3,_⟩ | ⟨h3,_⟩ | ⟨h3,_⟩
   · exact .inl ⟨by omega,by rw [h3]; exact h2⟩
   · omega
   · omega
 · rcases ht with ⟨h3,_⟩ | ⟨_,h3,h4⟩ | ⟨_,h3,_,h4,_⟩
   · omega
   · exact .inr ⟨h4,by rw [h2,h3]; rfl⟩
   · exact .inl ⟨by omega,by rw [h2,h3,h4]; rfl⟩
theorem Sp.next {α:Type} {TP:Except Nat α} {l:List Int} {s:ByteArray} {why a v why' a':Nat} {f:Nat×Nat→Except Nat α} (h:Sp TP why (yk l s a >>= f)) (ht:zd6 l s why a v why' a'):Sp TP why' (f (v,a')):=by
 rcases h with ⟨h1,h2⟩ | ⟨h1,h2⟩
 · rcases ht with ⟨_,_,h3,_⟩ | ⟨h3,_⟩ | ⟨h3,_⟩
   · exact .inl ⟨by omega,by rw [h3]; exact h2⟩
   · omega
   · omega
 · rcases ht with ⟨h3,_⟩ | ⟨_,h3,h4⟩ | ⟨_,_,h4,h3⟩
   · omega
   · exact .inr ⟨h4,by rw [h2,h3]; rfl⟩
   · exact .inl ⟨h4,by rw [h2,h3]; rfl⟩
theorem Sp.must {α:Type} {TP rest:Except Nat α} {why why':Nat} {b:Bool} (h:Sp TP why (if b=true then rest else .error 2)) (ht:JY why b why'):Sp TP why' rest:=by
 rcases h with ⟨h1,h2⟩ | ⟨h1,h2⟩
 · rcases ht with ⟨_,h3⟩ | ⟨h3,_⟩ | ⟨h3,_⟩
   · exact .inl ⟨by omega,by rw [h3]; exact h2⟩
   · omega
   · omega
 · rcases ht with ⟨h3,_⟩ | ⟨_,h3,h4⟩ | ⟨_,h3,h4⟩
   · omega
   · exact .inr ⟨h4,by rw [h2,if_pos h3]⟩
   · exact .inl ⟨by omega,by rw [h2,if_neg (by rw [h3]; simp),h4]⟩
theorem XAt.upd {w w':World} {bx br:Nat} {s:ByteArray} {why a:Nat} {O:ByteArray} {most:Nat} {fp:List Nat} (h:XAt w bx br s why a O most) (hU:Upd fp w w') (h1:bx∉fp) (h2:br∉fp):XAt w' bx br s why a O most:=by
 obtain ⟨bad,hR,hb⟩:=h.rd;exact ⟨h.blk.upd hU h1,h.ne,⟨bad,hR.upd hU h2,hb⟩,h.le⟩
theorem XAt.setWhy {w:World} {bx br:Nat} {s:ByteArray} {why a:Nat} {O:ByteArray} {most:Nat} (h:XAt w bx br s why a O most) (c:Nat) (hc:c≠0):XAt (w.setCell ⟨bx,3,none⟩ (.int .i64 (c:Nat))) bx br s c a O most:=by
 obtain ⟨bad,hR,hb⟩:=h.rd;exact ⟨h.blk.set 3 _,h.ne,⟨bad,hR.upd ((Upd.refl [bx] w).setCell (.inl (by simp)) _) (by have:=h.ne; simp; omega),fun h=>by omega⟩,h.le⟩
theorem yx (bx br n:Nat) (w:World) (s:ByteArray) (why a:Nat) (O:ByteArray) (most:Nat) (h:XAt w bx br s why a O most) (hs:s.size≤1099511627776) (hn:n≤32) :
 Calls Tryz.prog 113 #[.pointer (some ⟨bx,0,none⟩),.int .i64 (n:Nat)] w fun e w' => ∃ v why' a',e = .returned (.int .i64 (v:Nat))∧v<2^n∧XAt w' bx br s why' a' O most∧Upd [bx,br] w w'∧Wf s why a n v why' a':=by
 have cA:=h.blk.all;have hp:0<2^n:=Nat.two_pow_pos n;by_cases hw:why=0
 · subst hw;obtain ⟨bad,hR,hb⟩:=h.rd;have hb:=hb rfl;subst hb;have HB:=Hi (JT br (n:Nat) w s a false hR hs);have hne:=h.ne;have hle:=h.le;by_cases hc:a+n≤8*s.size
   · have e2:xh s a false (n:Nat)=false:=(by simp [xh]; omega);have e3:rdTo s a false (n:Nat)=a+n:=(by unfold rdTo; rw [e2]; simp);have e4:xg s a false (n:Nat)=zz s a n:=(by unfold xg; rw [e2]; simp);rw [e2,e3,e4] at HB;have ht:zu s a n = .ok (zz s a n,a+n):=(by unfold zu; rw [if_pos hc]);have hbl:=jg s a n;have hp32:2^n≤2^32:=Nat.pow_le_pow_right (by omega) hn;have hv:zz s a n<4294967296:=(by omega);have HT:=Hi ht;have HV:=Hi hbl;clear e2 e3 e4 ht hbl hp32 hp;generalize zz s a n=v at *;go_enter Tryz.func113,Tryz.ntmps113;(go_wp2_with fail);refine HB.out.mono ?_;rintro e w1 ⟨rfl,hR1,hU1⟩;have hB1:=h.blk.upd hU1 (by simpa using hne);have d0:=hB1.cell 0 rfl;have d2:=hR1.1.cell 2 rfl;go_wp2;go_returns;exact ⟨v,0,a+n,rfl,HV.out,⟨hB1,hne,⟨false,hR1,fun _=>rfl⟩,hc⟩,hU1.mono (by simp),.inr (.inl ⟨rfl,HT.out,rfl⟩)⟩
   · have e2:xh s a false (n:Nat)=true:=(by simp [xh]; omega);have e3:rdTo s a false (n:Nat)=a:=(by unfold rdTo; rw [e2]; simp);have e4:xg s a false (n:Nat)=0:=(by unfold xg; rw [e2]; simp);rw [e2,e3,e4] at HB;have ht:zu s a n = .error 3:=(by unfold zu; rw [if_neg hc]);have HT:=Hi ht;have HP:=Hi hp;clear e2 e3 e4 ht hp;go_enter Tryz.func113,Tryz.ntmps113;(go_wp2_with fail);refine HB.out.mono ?_;rintro e w1 ⟨rfl,hR1,hU1⟩;have hB1:=h.blk.upd hU1 (by simpa using hne);have dA:=hB1.all;have d0:=hB1.cell 0 rfl;have f3:=hB1.frz 3;have d2:=hR1.1.cell 2 rfl;go_wp2;go_returns;have hX:XAt w1 bx br s 1 a O most→XAt (w1.setCell ⟨bx,3,none⟩ (.int .i64 (3:Nat))) bx br s 3 a O most:=fun h=>h.setWhy 3 (by omega);refine ⟨0,3,a,rfl,HP.out,⟨hB1.set 3 _,hne,⟨true,hR1.upd ((Upd.refl [bx] w1).setCell (.inl (by simp)) _) (by simp; omega),fun h=>by omega⟩,h.le⟩,(hU1.mono (by simp)).setCell (.inl (by simp)) _,.inr (.inr ⟨rfl,HT.out,rfl,rfl,rfl⟩)⟩
 · have t1:((why:Int) != 0)=true:=(by simp; omega);have t2:(why != 0)=true:=(by simp; omega);have HP:=Hi hp;clear hp;go_enter Tryz.func113,Tryz.ntmps113;go_wp2;go_returns;exact ⟨0,why,a,rfl,HP.out,h,.refl _ _,.inl ⟨hw,rfl,rfl,rfl⟩⟩
theorem zX (bx br:Nat) (b:Bool) (w:World) (s:ByteArray) (why a:Nat) (O:ByteArray) (most:Nat) (h:XAt w bx br s why a O most) :
 Calls Tryz.prog 181 #[.pointer (some ⟨bx,0,none⟩),.bool b] w fun e w' => ∃ why',e = .returned (.tuple #[])∧XAt w' bx br s why' a O most∧Upd [bx,br] w w'∧JY why b why':=by
 have c3:=h.blk.cell 3 rfl;have f3:=h.blk.frz 3;by_cases hw:why=0
 · subst hw;cases b with
   | true =>
     go_enter Tryz.func181,Tryz.ntmps181;go_wp2;go_returns;exact ⟨0,rfl,h,.refl _ _,.inr (.inl ⟨rfl,rfl,rfl⟩)⟩
   | false =>
     go_enter Tryz.func181,Tryz.ntmps181;go_wp2;go_returns;exact ⟨2,rfl,h.setWhy 2 (by omega),(Upd.refl _ _).setCell (.inl (by simp)) _,.inr (.inr ⟨rfl,rfl,rfl⟩)⟩
 · have t1:((why:Int)==0)=false:=(by simp; omega);have t2:(why==0)=false:=(by simp; omega);go_enter Tryz.func181,Tryz.ntmps181;go_wp2;go_returns;exact ⟨why,rfl,h,.refl _ _,.inl ⟨hw,rfl⟩⟩
theorem Zb (x:Option Addr) (cap bx br:Nat) (cv:Value) (l:List Int) (w:World) (s:ByteArray) (why a:Nat) (O:ByteArray) (most:Nat) (h:XAt w bx br s why a O most) (hs:s.size≤1099511627776) (hI:IntsIn w x l.length l)
 (hx : ∀ b' off,x=some ⟨b',off,none⟩→b'∉[br])
 (hC:why=0→zm l≠3∧zm l≠0 ∧ ∃ g,cv = .slice (some ⟨g,0,none⟩) l.length l.length∧g≠br∧Row w 24 1 (.slice (some ⟨g,0,none⟩) l.length l.length) l.length (qf (jo (zj l)))) :
 Calls Tryz.prog 185 #[.pointer (some ⟨bx,0,none⟩),.slice x l.length cap,cv] w fun e w' => ∃ v why' a',e = .returned (.int .i64 (v:Nat))∧(v<l.length∨v=0)∧XAt w' bx br s why' a' O most∧Upd [bx,br] w w'∧zd6 l s why a v why' a':=by
 have cA:=h.blk.all;by_cases hw:why=0
 · subst hw;obtain ⟨bad,hR,hb⟩:=h.rd;have hb:=hb rfl;subst hb;obtain ⟨hk3,hk0,g,rfl,hg,hRow⟩:=hC rfl;have HN:=Hi (zfS x cap g br l w s a false hI hRow hR hs hx hg hk3);have hne:=h.ne;have hP:Hid (yk l s a=match nxt (zj l) s a false with
    | (some x,a',_) => .ok (x,a')
    | (none,_,true) => .error 3
    | (none,_,false) => .error 2):=Hi (by
      unfold yk;rw [if_neg (by rintro (h | h); exact hk3 h; exact hk0 h)];rfl)
   have hF:=fun x=>@zaD (zj l) s a x;have hL:=fun x=>@zdW (zj l) s 15 1 a 0 (by omega) x;have e:nxt (zj l) s a false=xU (zj l) s 15 1 a 0:=rfl;rw [← e] at hL;clear e hC;generalize nxt (zj l) s a false=rr at *;obtain ⟨o,a',bad⟩:=rr;simp only at hF hL;cases o with
   | some y =>
     have hbd:=hF y rfl;have hlt:=hL y rfl;rw [yj] at hlt;subst hbd;have HP:=Hi (show yk l s a = .ok (y,a') from hP.out);clear hP hF hL;unfold Zl at HN;simp only [Option.getD_some,Option.isSome_some] at HN;go_enter Tryz.func185,Tryz.ntmps185;(go_wp2_with fail);refine HN.out.mono ?_;rintro e w1 ⟨rfl,hR1,hU1⟩;have hB1:=h.blk.upd hU1 (by simpa using hne);have d0:=hB1.cell 0 rfl;have d2:=hR1.1.cell 2 rfl;go_wp2;go_returns;exact ⟨y,0,a',rfl,.inl hlt,⟨hB1,hne,⟨false,hR1,fun _=>rfl⟩,hR1.2⟩,hU1.mono (by simp),.inr (.inl ⟨rfl,HP.out,rfl⟩)⟩
   | none =>
     unfold Zl at HN;simp only [Option.getD_none,Option.isSome_none] at HN;cases bad with
     | true =>
       have HP:=Hi (show yk l s a = .error 3 from hP.out);clear hP hF hL;go_enter Tryz.func185,Tryz.ntmps185;(go_wp2_with fail);refine HN.out.mono ?_;rintro e w1 ⟨rfl,hR1,hU1⟩;have hB1:=h.blk.upd hU1 (by simpa using hne);have dA:=hB1.all;have d0:=hB1.cell 0 rfl;have f3:=hB1.frz 3;have d2:=hR1.1.cell 2 rfl;go_wp2;go_returns;exact ⟨0,3,a',rfl,.inr rfl,⟨hB1.set 3 _,hne,⟨true,hR1.upd ((Upd.refl [bx] w1).setCell (.inl (by simp)) _) (by simp; omega),fun h=>by omega⟩,hR1.2⟩,(hU1.mono (by simp)).setCell (.inl (by simp)) _,.inr (.inr ⟨rfl,rfl,by omega,HP.out⟩)⟩
     | false =>
       have HP:=Hi (show yk l s a = .error 2 from hP.out);clear hP hF hL;go_enter Tryz.func185,Tryz.ntmps185;(go_wp2_with fail);refine HN.out.mono ?_;rintro e w1 ⟨rfl,hR1,hU1⟩;have hB1:=h.blk.upd hU1 (by simpa using hne);have dA:=hB1.all;have d0:=hB1.cell 0 rfl;have f3:=hB1.frz 3;have d2:=hR1.1.cell 2 rfl;go_wp2;go_returns;exact ⟨0,2,a',rfl,.inr rfl,⟨hB1.set 3 _,hne,⟨false,hR1.upd ((Upd.refl [bx] w1).setCell (.inl (by simp)) _) (by simp; omega),fun h=>by omega⟩,hR1.2⟩,(hU1.mono (by simp)).setCell (.inl (by simp)) _,.inr (.inr ⟨rfl,rfl,by omega,HP.out⟩)⟩
 · have t1:((why:Int) != 0)=true:=(by simp; omega);have t2:(why != 0)=true:=(by simp; omega);go_enter Tryz.func185,Tryz.ntmps185;go_wp2;go_returns;exact ⟨0,why,a,rfl,.inr rfl,h,.refl _ _,.inl ⟨hw,rfl,rfl,rfl⟩⟩
end Go.Proofs.YtfkenhihcmmgkaaGreatDoor
