/- Package swingleref08: its state; the walks of take, must, next. -/
import Derived.Test.YtfkcdnaghndgfaaGreatDoorQAZ
set_option linter.unusedVariables false
set_option linter.unusedSimpArgs false
set_option linter.unusedSectionVars false
namespace Go.Proofs.YtfkcdnaghndgfaaGreatDoor
open Go.RowKit
structure XAt (w:World) (bx br:Nat) (s:ByteArray) (why a:Nat) (O:ByteArray) (most:Nat):Prop where
 blk:Blk w bx [.pointer (some ⟨br,0,none⟩),.string O,.int .i64 (most:Nat),.int .i64 (why:Nat)] 105
 ne:bx≠br
 rd : ∃ bad,RdAt w br 103 s a bad∧(why=0→bad=false)
 le:a≤8*s.size
def Sp {α:Type} (TP:Except Nat α) (why:Nat) (rest:Except Nat α):Prop:=(why≠0∧TP = .error why)∨(why=0∧TP=rest)
def KH (s:ByteArray) (why a n v why' a':Nat):Prop :=
 (why≠0∧v=0∧why'=why∧a'=a)∨(why=0∧zp s a n = .ok (v,a')∧why'=0)∨(why=0∧zp s a n = .error 3∧v=0∧why'=3∧a'=a)
def Qi (why:Nat) (b:Bool) (why':Nat):Prop:=(why≠0∧why'=why)∨(why=0∧b=true∧why'=0)∨(why=0∧b=false∧why'=2)
def zdo (l:List Int) (s:ByteArray) (why a v why' a':Nat):Prop :=
 (why≠0∧v=0∧why'=why∧a'=a)∨(why=0∧yc l s a = .ok (v,a')∧why'=0)∨(why=0∧v=0∧why'≠0∧yc l s a = .error why')
theorem Sp.take {α:Type} {TP:Except Nat α} {s:ByteArray} {why a n v why' a':Nat} {f:Nat×Nat→Except Nat α} (h:Sp TP why (zp s a n >>= f)) (ht:KH s why a n v why' a'):Sp TP why' (f (v,a')):=by
 rcases h with ⟨h1,h2⟩ | ⟨h1,h2⟩
 · rcases ht with ⟨_,_,h3,_⟩ | ⟨h3,_⟩ | ⟨h3,_⟩
   · exact .inl ⟨by omega,by rw [h3]; exact h2⟩
   · omega
   · omega
 · rcases ht with ⟨h3,_⟩ | ⟨_,h3,h4⟩ | ⟨_,h3,_,h4,_⟩
   · omega
   · exact .inr ⟨h4,by rw [h2,h3]; rfl⟩
   · exact .inl ⟨by omega,by rw [h2,h3,h4]; rfl⟩
theorem Sp.next {α:Type} {TP:Except Nat α} {l:List Int} {s:ByteArray} {why a v why' a':Nat} {f:Nat×Nat→Except Nat α} (h:Sp TP why (yc l s a >>= f)) (ht:zdo l s why a v why' a'):Sp TP why' (f (v,a')):=by
 rcases h with ⟨h1,h2⟩ | ⟨h1,h2⟩
 · rcases ht with ⟨_,_,h3,_⟩ | ⟨h3,_⟩ | ⟨h3,_⟩
   · exact .inl ⟨by omega,by rw [h3]; exact h2⟩
   · omega
   · omega
 · rcases ht with ⟨h3,_⟩ | ⟨_,h3,h4⟩ | ⟨_,_,h4,h3⟩
   · omega
   · exact .inr ⟨h4,by rw [h2,h3]; rfl⟩
   · exact .inl ⟨h4,by rw [h2,h3]; rfl⟩
theorem Sp.must {α:Type} {TP rest:Except Nat α} {why why':Nat} {b:Bool} (h:Sp TP why (if b=true then rest else .error 2)) (ht:Qi why b why'):Sp TP why' rest:=by
 rcases h with ⟨h1,h2⟩ | ⟨h1,h2⟩
 · rcases ht with ⟨_,h3⟩ | ⟨h3,_⟩ | ⟨h3,_⟩
   · exact .inl ⟨by omega,by rw [h3]; exact h2⟩
   · omega
   · omega
 · rcases ht with ⟨h3,_⟩ | ⟨_,h3,h4⟩ | ⟨_,h3,h4⟩
   · omega
   · exact .inr ⟨h4,by rw [h2,if_pos h3]⟩
   · exact .inl ⟨by omega,by rw [h2,if_neg (by rw [h3]; simp),h4]⟩
theorem XAt.upd {w w':World} {bx br:Nat} {s:ByteArray} {why a:Nat} {O:ByteArray} {most:Nat} {fp:List Nat} (h:XAt w bx br s why a O most) (hU:Upd fp w w') (h1:bx∉fp) (h2:br∉fp):XAt w' bx br s why a O most:=by
 obtain ⟨bad,hR,hb⟩:=h.rd
 exact ⟨h.blk.upd hU h1,h.ne,⟨bad,hR.upd hU h2,hb⟩,h.le⟩
theorem XAt.setWhy {w:World} {bx br:Nat} {s:ByteArray} {why a:Nat} {O:ByteArray} {most:Nat} (h:XAt w bx br s why a O most) (c:Nat) (hc:c≠0):XAt (w.setCell ⟨bx,3,none⟩ (.int .i64 (c:Nat))) bx br s c a O most:=by
 obtain ⟨bad,hR,hb⟩:=h.rd
 exact ⟨h.blk.set 3 _,h.ne,⟨bad,hR.upd ((Upd.refl [bx] w).setCell (.inl (by simp)) _) (by have:=h.ne; simp; omega),fun h=>by omega⟩,h.le⟩
set_option maxRecDepth 100000 in
set_option maxHeartbeats 1600000 in
theorem yq (bx br n:Nat) (w:World) (s:ByteArray) (why a:Nat) (O:ByteArray) (most:Nat) (h:XAt w bx br s why a O most) (hs:s.size≤1099511627776) (hn:n≤32) :
 Calls Tryz.prog 66 #[.pointer (some ⟨bx,0,none⟩),.int .i64 (n:Nat)] w fun e w' => ∃ v why' a',e = .returned (.int .i64 (v:Nat))∧v<2^n∧XAt w' bx br s why' a' O most∧Upd [bx,br] w w'∧KH s why a n v why' a':=by
 have cA:=h.blk.all
 have hp:0<2^n:=Nat.two_pow_pos n
 by_cases hw:why=0
 · subst hw
   obtain ⟨bad,hR,hb⟩:=h.rd
   have hb:=hb rfl
   subst hb
   have HB:=Lib.hid (Jr br (n:Nat) w s a false hR hs)
   have hne:=h.ne
   have hle:=h.le
   by_cases hc:a+n≤8*s.size
   · have e2:yW s a false (n:Nat)=false:=by simp [yW]; omega
     have e3:rdTo s a false (n:Nat)=a+n:=by unfold rdTo; rw [e2]; simp
     have e4:yX s a false (n:Nat)=zu s a n:=by unfold yX; rw [e2]; simp
     rw [e2,e3,e4] at HB
     have ht:zp s a n = .ok (zu s a n,a+n):=by unfold zp; rw [if_pos hc]
     have hbl:=jh s a n
     have hp32:2^n≤2^32:=Nat.pow_le_pow_right (by omega) hn
     have hv:zu s a n<4294967296:=by omega
     have HT:=Lib.hid ht
     have HV:=Lib.hid hbl
     clear e2 e3 e4 ht hbl hp32 hp
     generalize zu s a n=v at *
     go_enter Tryz.func66,Tryz.ntmps66
     go_wp2_with fail
     refine HB.out.mono ?_
     rintro e w1 ⟨rfl,hR1,hU1⟩
     have hB1:=h.blk.upd hU1 (by simpa using hne)
     have d0:=hB1.cell 0 rfl
     have d2:=hR1.1.cell 2 rfl
     go_wp2
     go_returns
     exact ⟨v,0,a+n,rfl,HV.out,⟨hB1,hne,⟨false,hR1,fun _=>rfl⟩,hc⟩,hU1.mono (by simp),.inr (.inl ⟨rfl,HT.out,rfl⟩)⟩
   · have e2:yW s a false (n:Nat)=true:=by simp [yW]; omega
     have e3:rdTo s a false (n:Nat)=a:=by unfold rdTo; rw [e2]; simp
     have e4:yX s a false (n:Nat)=0:=by unfold yX; rw [e2]; simp
     rw [e2,e3,e4] at HB
     have ht:zp s a n = .error 3:=by unfold zp; rw [if_neg hc]
     have HT:=Lib.hid ht
     have HP:=Lib.hid hp
     clear e2 e3 e4 ht hp
     go_enter Tryz.func66,Tryz.ntmps66
     go_wp2_with fail
     refine HB.out.mono ?_
     rintro e w1 ⟨rfl,hR1,hU1⟩
     have hB1:=h.blk.upd hU1 (by simpa using hne)
     have dA:=hB1.all
     have d0:=hB1.cell 0 rfl
     have f3:=hB1.frz 3
     have d2:=hR1.1.cell 2 rfl
     go_wp2
     go_returns
     have hX:XAt w1 bx br s 1 a O most→XAt (w1.setCell ⟨bx,3,none⟩ (.int .i64 (3:Nat))) bx br s 3 a O most:=fun h=>h.setWhy 3 (by omega)
     refine ⟨0,3,a,rfl,HP.out,⟨hB1.set 3 _,hne,⟨true,hR1.upd ((Upd.refl [bx] w1).setCell (.inl (by simp)) _) (by simp; omega),fun h=>by omega⟩,h.le⟩,(hU1.mono (by simp)).setCell (.inl (by simp)) _,.inr (.inr ⟨rfl,HT.out,rfl,rfl,rfl⟩)⟩
 · have t1:((why:Int) != 0)=true:=by simp; omega
   have t2:(why != 0)=true:=by simp; omega
   have HP:=Lib.hid hp
   clear hp
   go_enter Tryz.func66,Tryz.ntmps66
   go_wp2
   go_returns
   exact ⟨0,why,a,rfl,HP.out,h,.refl _ _,.inl ⟨hw,rfl,rfl,rfl⟩⟩
theorem zL (bx br:Nat) (b:Bool) (w:World) (s:ByteArray) (why a:Nat) (O:ByteArray) (most:Nat) (h:XAt w bx br s why a O most) :
 Calls Tryz.prog 103 #[.pointer (some ⟨bx,0,none⟩),.bool b] w fun e w' => ∃ why',e = .returned (.tuple #[])∧XAt w' bx br s why' a O most∧Upd [bx,br] w w'∧Qi why b why':=by
 have c3:=h.blk.cell 3 rfl
 have f3:=h.blk.frz 3
 by_cases hw:why=0
 · subst hw
   cases b with
   | true =>
     go_enter Tryz.func103,Tryz.ntmps103
     go_wp2
     go_returns
     exact ⟨0,rfl,h,.refl _ _,.inr (.inl ⟨rfl,rfl,rfl⟩)⟩
   | false =>
     go_enter Tryz.func103,Tryz.ntmps103
     go_wp2
     go_returns
     exact ⟨2,rfl,h.setWhy 2 (by omega),(Upd.refl _ _).setCell (.inl (by simp)) _,.inr (.inr ⟨rfl,rfl,rfl⟩)⟩
 · have t1:((why:Int)==0)=false:=by simp; omega
   have t2:(why==0)=false:=by simp; omega
   go_enter Tryz.func103,Tryz.ntmps103
   go_wp2
   go_returns
   exact ⟨why,rfl,h,.refl _ _,.inl ⟨hw,rfl⟩⟩
set_option maxRecDepth 100000 in
set_option maxHeartbeats 1600000 in
theorem Qz (x:Option Addr) (cap bx br:Nat) (cv:Value) (l:List Int) (w:World) (s:ByteArray) (why a:Nat) (O:ByteArray) (most:Nat) (h:XAt w bx br s why a O most) (hs:s.size≤1099511627776) (hI:IntsIn w x l.length l)
 (hx : ∀ b' off,x=some ⟨b',off,none⟩→b'∉[br])
 (hC:why=0→zg l≠3∧zg l≠0 ∧ ∃ g,cv = .slice (some ⟨g,0,none⟩) l.length l.length∧g≠br∧Row w 22 1 (.slice (some ⟨g,0,none⟩) l.length l.length) l.length (qa (jq (ze l)))) :
 Calls Tryz.prog 107 #[.pointer (some ⟨bx,0,none⟩),.slice x l.length cap,cv] w fun e w' => ∃ v why' a',e = .returned (.int .i64 (v:Nat))∧(v<l.length∨v=0)∧XAt w' bx br s why' a' O most∧Upd [bx,br] w w'∧zdo l s why a v why' a':=by
 have cA:=h.blk.all
 by_cases hw:why=0
 · subst hw
   obtain ⟨bad,hR,hb⟩:=h.rd
   have hb:=hb rfl
   subst hb
   obtain ⟨hk3,hk0,g,rfl,hg,hRow⟩:=hC rfl
   have HN:=Lib.hid (zdy x cap g br l w s a false hI hRow hR hs hx hg hk3)
   have hne:=h.ne
   have hP:Hid (yc l s a=match nxt (ze l) s a false with
    | (some x,a',_) => .ok (x,a')
    | (none,_,true) => .error 3
    | (none,_,false) => .error 2):=Lib.hid (by
      unfold yc
      rw [if_neg (by rintro (h | h); exact hk3 h; exact hk0 h)]
      rfl)
   have hF:=fun x=>@zax (ze l) s a x
   have hL:=fun x=>@zc2 (ze l) s 15 1 a 0 (by omega) x
   have e:nxt (ze l) s a false=xR (ze l) s 15 1 a 0:=rfl
   rw [← e] at hL
   clear e hC
   generalize nxt (ze l) s a false=rr at *
   obtain ⟨o,a',bad⟩:=rr
   simp only at hF hL
   cases o with
   | some y =>
     have hbd:=hF y rfl
     have hlt:=hL y rfl
     rw [zZ] at hlt
     subst hbd
     have HP:=Lib.hid (show yc l s a = .ok (y,a') from hP.out)
     clear hP hF hL
     unfold QA at HN
     simp only [Option.getD_some,Option.isSome_some] at HN
     go_enter Tryz.func107,Tryz.ntmps107
     go_wp2_with fail
     refine HN.out.mono ?_
     rintro e w1 ⟨rfl,hR1,hU1⟩
     have hB1:=h.blk.upd hU1 (by simpa using hne)
     have d0:=hB1.cell 0 rfl
     have d2:=hR1.1.cell 2 rfl
     go_wp2
     go_returns
     exact ⟨y,0,a',rfl,.inl hlt,⟨hB1,hne,⟨false,hR1,fun _=>rfl⟩,hR1.2⟩,hU1.mono (by simp),.inr (.inl ⟨rfl,HP.out,rfl⟩)⟩
   | none =>
     unfold QA at HN
     simp only [Option.getD_none,Option.isSome_none] at HN
     cases bad with
     | true =>
       have HP:=Lib.hid (show yc l s a = .error 3 from hP.out)
       clear hP hF hL
       go_enter Tryz.func107,Tryz.ntmps107
       go_wp2_with fail
       refine HN.out.mono ?_
       rintro e w1 ⟨rfl,hR1,hU1⟩
       have hB1:=h.blk.upd hU1 (by simpa using hne)
       have dA:=hB1.all
       have d0:=hB1.cell 0 rfl
       have f3:=hB1.frz 3
       have d2:=hR1.1.cell 2 rfl
       go_wp2
       go_returns
       exact ⟨0,3,a',rfl,.inr rfl,⟨hB1.set 3 _,hne,⟨true,hR1.upd ((Upd.refl [bx] w1).setCell (.inl (by simp)) _) (by simp; omega),fun h=>by omega⟩,hR1.2⟩,(hU1.mono (by simp)).setCell (.inl (by simp)) _,.inr (.inr ⟨rfl,rfl,by omega,HP.out⟩)⟩
     | false =>
       have HP:=Lib.hid (show yc l s a = .error 2 from hP.out)
       clear hP hF hL
       go_enter Tryz.func107,Tryz.ntmps107
       go_wp2_with fail
       refine HN.out.mono ?_
       rintro e w1 ⟨rfl,hR1,hU1⟩
       have hB1:=h.blk.upd hU1 (by simpa using hne)
       have dA:=hB1.all
       have d0:=hB1.cell 0 rfl
       have f3:=hB1.frz 3
       have d2:=hR1.1.cell 2 rfl
       go_wp2
       go_returns
       exact ⟨0,2,a',rfl,.inr rfl,⟨hB1.set 3 _,hne,⟨false,hR1.upd ((Upd.refl [bx] w1).setCell (.inl (by simp)) _) (by simp; omega),fun h=>by omega⟩,hR1.2⟩,(hU1.mono (by simp)).setCell (.inl (by simp)) _,.inr (.inr ⟨rfl,rfl,by omega,HP.out⟩)⟩
 · have t1:((why:Int) != 0)=true:=by simp; omega
   have t2:(why != 0)=true:=by simp; omega
   go_enter Tryz.func107,Tryz.ntmps107
   go_wp2
   go_returns
   exact ⟨0,why,a,rfl,.inr rfl,h,.refl _ _,.inl ⟨hw,rfl,rfl,rfl⟩⟩
end Go.Proofs.YtfkcdnaghndgfaaGreatDoor
