/- Package inflate: a block of symbols: plain, and the walk of symbols. -/
import Derived.Test.YtfkcdnaghndgfaaGreatDoorCopy
import Derived.Test.YtfkcdnaghndgfaaGreatDoorQAD
import Derived.Test.YtfkcdnaghndgfaaGreatDoorQAG
set_option linter.unusedVariables false
set_option linter.unusedSimpArgs false
set_option linter.unusedSectionVars false
namespace Go.Proofs.YtfkcdnaghndgfaaGreatDoor
open Go.RowKit
def qo (l2:List Int) (s:ByteArray) (most:Nat) (k:List Nat→Nat→Except Nat (List Nat×Nat)) (out:List Nat) (r:Nat×Nat):Except Nat (List Nat×Nat) :=
 if r.1=256 then .ok (out,r.2) else
  if r.1<256 then (if out.length+1≤most then k (out++[r.1]) r.2 else .error 4) else
   Jl l2 s most r.1 out r.2 >>= fun q=>k q.1 q.2
def yS (l1 l2:List Int) (s:ByteArray) (most:Nat):Nat→List Nat→Nat→Except Nat (List Nat×Nat)
 | 0,_,_ => .error 0
 | g+1,out,a=>yc l1 s a >>= qo l2 s most (yS l1 l2 s most g) out
theorem zgh {n:List Nat} {s:ByteArray} {f k a c x:Nat} (h:(xR n s f k a c).1=some x):a<(xR n s f k a c).2.1:=by
 induction f generalizing k a c with
 | zero=>cases h
 | succ f ih =>
   by_cases h1:a<8*s.size
   · cases hx:qx n k (2*c+zu s a 1) with
     | some y=>rw [jz h1 hx]; exact Nat.lt_succ_self a
     | none=>rw [jy h1 hx] at h ⊢; exact Nat.lt_trans (Nat.lt_succ_self a) (ih h)
   · rw [kJ h1] at h; cases h
theorem jA {l:List Int} {s:ByteArray} {a x a':Nat} (h:yc l s a = .ok (x,a')):a<a':=by
 unfold yc at h
 split at h
 · cases h
 · have hA:=fun x=>@zgh (ze l) s 15 1 a 0 x
   have e:nxt (ze l) s a false=xR (ze l) s 15 1 a 0:=rfl
   rw [e] at h
   generalize xR (ze l) s 15 1 a 0=rr at *
   obtain ⟨o,a2,bad⟩:=rr
   cases o with
   | some y=>have:=hA y rfl; cases h; exact this
   | none=>cases bad<;>cases h
theorem yE {s:ByteArray} {a n v a':Nat} (h:zp s a n = .ok (v,a')):a≤a':=by
 unfold zp at h
 split at h
 · cases h; omega
 · cases h
theorem YY {l2:List Int} {s:ByteArray} {most sym:Nat} {out out':List Nat} {a a':Nat} (h:Jl l2 s most sym out a = .ok (out',a')):a≤a':=by
 unfold Jl at h
 split at h
 · cases h
 · cases h1:zp s a (zT (sym:Nat)).toNat with
   | error c=>rw [h1] at h; cases h
   | ok r1 =>
     rw [h1] at h
     have h1':=yE h1
     replace h:xd l2 s most sym out r1 = .ok (out',a'):=h
     unfold xd at h
     split at h
     · cases h
     · cases h2:yc l2 s r1.2 with
       | error c=>rw [h2] at h; cases h
       | ok r2 =>
         rw [h2] at h
         have h2':=jA h2
         rename_i long _
         replace h:xH s most long out r2 = .ok (out',a'):=h
         unfold xH at h
         split at h
         · cases h
         · cases h3:zp s r2.2 (yJ (r2.1:Nat)).toNat with
           | error c=>rw [h3] at h; cases h
           | ok r3 =>
             rw [h3] at h
             have h3':=yE h3
             replace h:qv most long out r2.1 r2.2 r3 = .ok (out',a'):=h
             unfold qv at h
             split at h
             · cases h
             · split at h
               · split at h
                 · cases h; omega
                 · cases h
               · cases h
def DecNew (w0 w:World) (dv:Value) (l:List Int):Prop :=
 (dv = .pointer none∧(zg l=3∨zg l=0))∨(zg l≠3∧zg l≠0 ∧ ∃ d v,dv = .pointer (some ⟨d,0,none⟩)∧DcAt w d v (ze l)∧w0.heap.size≤d ∧ ∀ k,v.ownBlock=some k→w0.heap.size≤k)
theorem DecNew.upd {w0 w w':World} {dv:Value} {l:List Int} {fp:List Nat} (h:DecNew w0 w dv l) (hU:Upd fp w w') (hf : ∀ k∈fp,k<w0.heap.size):DecNew w0 w' dv l:=by
 rcases h with h | ⟨h1,h2,d,v,e,hD,h3,h4⟩
 · exact .inl h
 · exact .inr ⟨h1,h2,d,v,e,hD.upd hU (fun hm=>by have:=hf _ hm; omega) (fun k hk hm=>by have:=hf _ hm; have:=h4 k hk; omega),h3,h4⟩
theorem DecNew.for {w0 w:World} {dv:Value} {l:List Int} {b:Nat} (h:DecNew w0 w dv l) (hb:b<w0.heap.size):DecFor w dv l b:=by
 rcases h with h | ⟨h1,h2,d,v,e,hD,h3,h4⟩
 · exact .inl h
 · exact .inr ⟨h1,h2,d,v,e,hD,by omega,fun hm=>by have:=h4 b hm; omega⟩
theorem DecNew.back {w0 w1 w:World} {dv:Value} {l:List Int} (h:DecNew w1 w dv l) (hs:w0.heap.size≤w1.heap.size):DecNew w0 w dv l:=by
 rcases h with h | ⟨h1,h2,d,v,e,hD,h3,h4⟩
 · exact .inl h
 · exact .inr ⟨h1,h2,d,v,e,hD,by omega,fun k hm=>by have:=h4 k hm; omega⟩
theorem zc5 (a:Option Addr) (len cap:Nat) (l:List Int) (w:World) (hlen:len≤9223372036854775807) (hI:IntsIn w a len l) :
 Calls Tryz.prog 177 #[.slice a len cap] w fun e w' => ∃ dv ok,e = .returned (.tuple #[dv,.bool ok])∧DecNew w w' dv l∧Upd [] w w':=by
 refine (zcY a len cap l w hlen hI).mono ?_
 rintro e w' ⟨hU,⟨hk,rfl⟩ | ⟨hk3,hk0,d,v,rfl,hD,hd,hv⟩⟩
 · exact ⟨_,_,rfl,.inl ⟨rfl,hk⟩,hU⟩
 · exact ⟨_,_,rfl,.inr ⟨hk3,hk0,d,v,rfl,hD,hd,hv⟩,hU⟩
theorem zeT {x b sym:Nat} {dv v:Value} {l2:List Int} {w:World} {s:ByteArray} {a:Nat} {out:List Nat} {most:Nat} {out':List Nat} {a':Nat} (h:StAt w x b v s a out most) (hs:s.size≤1099511627776) (hD:DecFor w dv l2 b) (hsym:sym≤1000) (hl2:l2.length≤300) (hc:Jl l2 s most sym out a = .ok (out',a')) :
 Calls Tryz.prog 179 #[.pointer (some ⟨x,0,none⟩),.int .i64 (sym:Nat),dv] w fun e w'=>e = .returned (.tuple #[]) ∧ ∃ v',StAt w' x b v' s a' out' most∧Upd (yO x b v) w w'∧Later w v v':=by
 have:=XO x b sym dv v l2 w s a out most h hs hD hsym hl2
 rwa [hc] at this
theorem zcI {x b sym:Nat} {dv v:Value} {l2:List Int} {w:World} {s:ByteArray} {a:Nat} {out:List Nat} {most c:Nat} (h:StAt w x b v s a out most) (hs:s.size≤1099511627776) (hD:DecFor w dv l2 b) (hsym:sym≤1000) (hl2:l2.length≤300) (hc:Jl l2 s most sym out a = .error c) :
 Calls Tryz.prog 179 #[.pointer (some ⟨x,0,none⟩),.int .i64 (sym:Nat),dv] w fun e w'=>e = .panicked [{ v := .iface 27 (.int .i64 (c:Nat)),recovered:=false }]∧Upd (yO x b v) w w':=by
 have:=XO x b sym dv v l2 w s a out most h hs hD hsym hl2
 rwa [hc] at this
def SymsRel (w0 w:World) (x b:Nat) (v0 v:Value) (s:ByteArray) (a:Nat) (out:List Nat) (most:Nat):Prop :=
 StAt w x b v s a out most∧Upd (yO x b v0) w0 w∧Later w0 v0 v
theorem SymsRel.next {w0 w w':World} {x b:Nat} {v0 v v':Value} {s:ByteArray} {a a':Nat} {out out':List Nat} {most:Nat} (h:SymsRel w0 w x b v0 v s a out most) (hS:StAt w' x b v' s a' out' most) (hU:Upd (yO x b v) w w') (hT:Later w v v'):SymsRel w0 w' x b v0 v' s a' out' most :=
 ⟨hS,h.2.1.trans hU (fun k hk=>by
  simp only [yO,List.mem_cons] at hk ⊢
  rcases hk with hk | hk | hk
  · exact .inl (.inl hk)
  · exact .inl (.inr (.inl hk))
  · exact (h.2.2.fp k hk).imp (fun h => .inr (.inr h)) id),h.2.2.trans h.2.1.size hT⟩
theorem SymsRel.read {w0 w w':World} {x b:Nat} {v0 v:Value} {s:ByteArray} {a a':Nat} {out:List Nat} {most:Nat} (h:SymsRel w0 w x b v0 v s a out most) (hU:Upd [b] w w') (hR:RdAt w' b 194 s a' false):SymsRel w0 w' x b v0 v s a' out most :=
 ⟨h.1.read hU hR,h.2.1.then (yj hU),h.2.2⟩
theorem zhA {w:World} {x b:Nat} {v:Value} {s:ByteArray} {a:Nat} {out:List Nat} {most:Nat} (h:StAt w x b v s a out most) : ∀ k∈yO x b v,k<w.heap.size:=by
 intro k hk
 simp only [yO,List.mem_cons,Option.mem_toList] at hk
 rcases hk with hk | hk | hk
 · rw [hk]; exact h.blk.lt
 · rw [hk]; exact h.rd.1.lt
 · exact h.row.lt k hk
set_option maxRecDepth 100000 in
set_option maxHeartbeats 6400000 in
theorem Zd (x b F:Nat) (a1 a2:Option Addr) (n1 c1 n2 c2:Nat) (v:Value) (l1 l2:List Int) (w:World) (s:ByteArray) (a:Nat) (out:List Nat) (most:Nat) (h:StAt w x b v s a out most) (hs:s.size≤1099511627776)
 (hI1:IntsIn w a1 n1 l1) (hI2:IntsIn w a2 n2 l2) (hl1:l1.length≤300) (hl2:l2.length≤300) (hF:8*s.size<F+a) :
 Calls Tryz.prog 141 #[.pointer (some ⟨x,0,none⟩),.slice a1 n1 c1,.slice a2 n2 c2] w (XT w x b v s most (.tuple #[]) (yS l1 l2 s most F out a)):=by
 have hn1:=hI1.len
 have hn2:=hI2.len
 obtain ⟨i1,hi1,hy0,hy1,hy2⟩:=info_parts Za
 go_enter Tryz.func141,Tryz.ntmps141
 go_wp2_with fail
 refine (zc5 a1 n1 c1 l1 w (by omega) hI1).mono ?_
 rintro e w1 ⟨dv1,ok1,rfl,hD1,hU1⟩
 go_wp2_with fail
 refine (zc5 a2 n2 c2 l2 w1 (by omega) (hI2.pure hU1)).mono ?_
 rintro e w2 ⟨dv2,ok2,rfl,hD2,hU2⟩
 have hU02:Upd [] w w2:=hU1.then hU2
 have hD1':=hD1.upd hU2 (by simp)
 have hD2':=hD2.back hU1.size
 have h2:=h.pure hU02
 have hfp:=zhA h
 clear hD1 hD2 hU1 hU2 hI1 hI2
 have HF:=Lib.hid hU02
 clear hU02
 go_wp2
 go_loopg [10] F (fun gg s10 wr => ∃ g out' a' v',gg=g∧Hid (yS l1 l2 s most F out a=yS l1 l2 s most g out' a')∧8*s.size<g+a'∧SymsRel w2 wr x b v v' s a' out' most)
 case atStart=>exact ⟨F,out,a,v,rfl,Lib.hid rfl,hF,h2,.refl _ _,.refl _ _⟩
 case round =>
  obtain ⟨g,out',a',v',hgg,HE,hg,hSt⟩:=hrel
  have hrd:=hSt.1.rd.2
  generalize hCP:yS l1 l2 s most F out a=CP at *
  clear hCP h2
  obtain ⟨g,rfl⟩ : ∃ g',g=g'+1:=⟨g-1,by omega⟩
  subst hgg
  have hE:CP=(yc l1 s a' >>= qo l2 s most (yS l1 l2 s most g) out'):=HE.out
  have cc:=hSt.1.blk.cell 0 rfl
  have hDa:=(hD1'.upd hSt.2.1 hfp).for (b:=b) (hfp b (by simp [yO]))
  rcases vT l1 s a' hrd with ⟨sym,a3,hsym,ha3,_,hn⟩ | ⟨c,_,hn⟩
  · have hadv:=jA hn
    rw [hn] at hE
    have hE':CP=qo l2 s most (yS l1 l2 s most g) out' (sym,a3):=hE
    unfold qo at hE'
    simp only at hE'
    clear hE HE
    have HE':=Lib.hid hE'
    clear hE'
    go_wp2_with fail
    refine (ZU hSt.1.rd hs hDa hn).mono ?_
    rintro e w4 ⟨rfl,hR4,hU4⟩
    have hSt4:=hSt.read hU4 hR4
    clear hn
    have hE':=HE'.out
    clear HE'
    by_cases hs1:sym=256
    · have hsf:((sym:Int)==256)=true:=by rw [hs1]; rfl
      rw [if_pos hs1] at hE'
      have HE:=Lib.hid hE'
      clear hE' hs1
      go_wp2
      go_returns
      rw [HE.out]
      exact ⟨rfl,v',hSt4.1,(kR HF.out).then hSt4.2.1,hSt4.2.2.imp id fun ⟨g,h1,h2⟩=>⟨g,h1,Nat.le_trans HF.out.size h2⟩⟩
    · have hsf:((sym:Int)==256)=false:=by simp; omega
      rw [if_neg hs1] at hE'
      by_cases hs2:sym<256
      · have hlf:decide ((sym:Int)<256)=true:=decide_eq_true (by omega)
        rw [if_pos hs2] at hE'
        by_cases hroom:out'.length+1≤most
        · rw [if_pos hroom] at hE'
          have HE:=Lib.hid hE'
          clear hE'
          go_wp2_with fail
          refine (Yp x b 1 v' _ s _ out' most hSt4.1 hroom).mono ?_
          rintro e w8 ⟨rfl,k8,rfl⟩
          have hSt8:SymsRel w2 (w4.drewN k8) x b v v' s a3 out' most:=⟨hSt4.1.pure ((Upd.refl [] _).drewN k8),hSt4.2.1.drewN k8,hSt4.2.2⟩
          clear hSt4 hSt hR4 hU4 cc hDa
          generalize w4.drewN k8=w8 at *
          obtain ⟨va,vc,rfl⟩:=hSt8.1.row.form
          have hrow:=hSt8.1.row
          have hblk:=hSt8.1.blk
          have hcap:=hSt8.1.cap
          have c1:=hblk.cell 1 rfl
          have f1:=hblk.frz 1
          have ca1:=(hblk.alloc (Obj.cells #[.int .u8 (sym:Nat)] 5)).cell 1 rfl
          have hN63:out'.length+1≤maxLen:=by unfold maxLen; omega
          have hNb:(out'.length+1)*1≤140737488355328:=by omega
          have e8:IntKind.u8.wrap (sym:Int)=(sym:Int):=by rw [IntKind.wrap_u8]; omega
          have hfx:x∉(Value.slice va out'.length vc).ownBlock.toList:=by have:=hSt8.1.vx; simpa [eq_comm] using this
          go_wp2_with (at_builtin; refine zC _ rfl _ _ 75 rfl 5 i1 _ 1 1 Tryz.underlying75 hi1 hy0 hy1 hy2 rfl (by omega) (.slice va out'.length vc) out'.length _ rfl (hrow.alloc _) ⟨w8.heap.size,0,none⟩ 1 1 [_] rfl rfl (World.news_of_block (cs := #[_]) (t:=5) (fr:=(0,0)) (heap_alloc_new _ _)) (by simp [Value.oneCell']) hN63 hNb ?_)
          rintro v9 w9 hR9 hU9 hT9
          obtain ⟨va9,vc9,rfl⟩:=hR9.form
          have hB9:=(hblk.alloc _).upd hU9 hfx
          have k9:=hB9.cell 1 rfl
          have f9:=hB9.frz 1
          all_goals go_wp2
          all_goals go_roundg g
          all_goals first
           | omega
           | (obtain ⟨hS9,hU',hT'⟩:=hSt8.1.push ((Upd.refl _ _).alloc _) [sym] hR9 hU9 hT9 (by simp; omega) (by simpa using hs2)
              exact ⟨g,_,a3,_,rfl,HE,by omega,hSt8.next hS9 hU' hT'⟩)
        · rw [if_neg hroom] at hE'
          have HE:=Lib.hid hE'
          clear hE'
          go_wp2_with fail
          refine (KP x b 1 v' _ s _ out' most hSt4.1 hroom (by omega)).mono ?_
          rintro e w8 ⟨rfl,k8,rfl⟩
          go_wp2
          rw [HE.out]
          exact ⟨rfl,rfl,((kR HF.out).then hSt4.2.1).drewN k8⟩
      · have hlf:decide ((sym:Int)<256)=false:=decide_eq_false (by omega)
        rw [if_neg hs2] at hE'
        have hDb:=(hD2'.upd hSt4.2.1 hfp).for (b:=b) (hfp b (by simp [yO]))
        cases hcp:Jl l2 s most sym out' a3 with
        | error c =>
          rw [hcp] at hE'
          have HE:=Lib.hid (show CP = .error c from hE')
          clear hE'
          go_wp2_with fail
          refine (zcI hSt4.1 hs hDb (by omega) hl2 hcp).mono ?_
          rintro e w8 ⟨rfl,hU8⟩
          go_wp2
          rw [HE.out]
          exact ⟨rfl,rfl,(kR HF.out).then (hSt4.2.1.trans hU8 (fun k hk=>by
           simp only [yO,List.mem_cons] at hk ⊢
           rcases hk with hk | hk | hk
           · exact .inl (.inl hk)
           · exact .inl (.inr (.inl hk))
           · exact (hSt4.2.2.fp k hk).imp (fun h => .inr (.inr h)) id))⟩
        | ok q =>
          obtain ⟨o5,a5⟩:=q
          rw [hcp] at hE'
          have HE:=Lib.hid (show CP=yS l1 l2 s most g o5 a5 from hE')
          have hadv5:=YY hcp
          clear hE'
          go_wp2_with fail
          refine (zeT hSt4.1 hs hDb (by omega) hl2 hcp).mono ?_
          rintro e w8 ⟨rfl,v8,hS8,hU8,hT8⟩
          go_wp2
          go_roundg g
          · exact ⟨g,o5,a5,v8,rfl,HE,by omega,hSt4.next hS8 hU8 hT8⟩
          · omega
  · rw [hn] at hE
    have HE:=Lib.hid (show CP = .error c from hE)
    clear hE
    go_wp2_with fail
    refine (QV hSt.1.rd hs hDa hn).mono ?_
    rintro e w4 ⟨rfl,hU4⟩
    go_wp2
    rw [HE.out]
    exact ⟨rfl,rfl,(kR HF.out).then (hSt.2.1.then (yj hU4))⟩
end Go.Proofs.YtfkcdnaghndgfaaGreatDoor
namespace Go.Proofs.YtfkcdnaghndgfaaGreatDoor
open Go.RowKit
def xp (s:ByteArray) (most:Nat) (out:List Nat) (n:Nat) (r:Nat×Nat):Except Nat (List Nat×Nat) :=
 if r.1=65535-n then
  (if xw s r.2 false (n:Nat)=true then .error 3 else if out.length+n≤most then .ok (out++za (xu s r.2 false (n:Nat)),jw s r.2 false (n:Nat)) else .error 4)
 else .error 2
def jk (s:ByteArray) (most:Nat) (out:List Nat) (a:Nat):Except Nat (List Nat×Nat) :=
 zp s (xA a false) 16 >>= fun r=>zp s r.2 16 >>= xp s most out r.1
theorem zho (n:Nat) (h:n<65536):n ^^^ 65535=65535-n:=by
 have h2:BitVec.ofNat 16 n ^^^ 65535#16=65535#16-BitVec.ofNat 16 n:=by
  rw [show (65535#16:BitVec 16)=BitVec.allOnes 16 from rfl,BitVec.xor_allOnes,BitVec.allOnes_sub_eq_not]
 have h3:=congrArg BitVec.toNat h2
 have e1:n%2^16=n:=Nat.mod_eq_of_lt h
 have e2:65535%2^16=65535:=rfl
 simp only [BitVec.toNat_xor,BitVec.toNat_ofNat,BitVec.toNat_sub,e1,e2] at h3
 omega
theorem zh1 (n:Nat) (h:n<65536):bits .xor .i64 (n:Int) 65535=((65535-n:Nat):Int):=by
 have h1:(BitVec.ofInt 64 (n:Int)).toNat=n:=by
  rw [BitVec.ofInt_natCast,BitVec.toNat_ofNat]; exact Nat.mod_eq_of_lt (by omega)
 have h2:(BitVec.ofInt 64 65535).toNat=65535:=by rfl
 show IntKind.i64.wrap ((BitVec.ofInt 64 (n:Int) ^^^ BitVec.ofInt 64 65535).toNat:Int)=_
 rw [BitVec.toNat_xor,h1,h2,zho n h]
 exact IntWalk.i64_in _ (by omega)
set_option maxRecDepth 100000 in
set_option maxHeartbeats 6400000 in
theorem Vl (x b:Nat) (v:Value) (w:World) (s:ByteArray) (a:Nat) (out:List Nat) (most:Nat) (h:StAt w x b v s a out most) (hs:s.size≤1099511627776) :
 Calls Tryz.prog 140 #[.pointer (some ⟨x,0,none⟩)] w (XT w x b v s most (.tuple #[]) (jk s most out a)):=by
 have HS:=Lib.hid (show jk s most out a=(zp s (xA a false) 16 >>= fun r=>zp s r.2 16 >>= xp s most out r.1) by rfl)
 generalize jk s most out a=CP at *
 obtain ⟨i1,hi1,hy0,hy1,hy2⟩:=info_parts Za
 have c0:=h.blk.cell 0 rfl
 go_enter Tryz.func140,Tryz.ntmps140
 go_wp2_with fail
 refine (Xk b w s a false h.rd hs).mono ?_
 rintro e w1 ⟨rfl,hR1,hU1⟩
 have h1:=h.read hU1 hR1
 have c1:=h1.blk.cell 0 rfl
 have hU1':=hU1
 clear hU1 hR1
 rcases zA s (xA a false) 16 with ⟨n,hn,hna,htk⟩ | htk
 · have hE:CP=(zp s (xA a false+16) 16 >>= xp s most out n):=by rw [HS.out,htk]; rfl
   have HE:=Lib.hid hE
   clear hE HS
   go_wp2_with fail
   refine (yV h1.rd hs (by omega) htk).mono ?_
   rintro e w2 ⟨rfl,hR2,hU2⟩
   have h2:=h1.read hU2 hR2
   have c2:=h2.blk.cell 0 rfl
   have hUw2:Upd (yO x b v) w w2:=yj (hU1'.then hU2)
   clear hU2 hR2 htk
   have hxor:=zh1 n hn
   rcases zA s (xA a false+16) 16 with ⟨m,hm,hma,htk⟩ | htk
   · have hE:CP=xp s most out n (m,xA a false+16+16):=by rw [HE.out,htk]; rfl
     unfold xp at hE
     simp only at hE
     have HE:=Lib.hid hE
     clear hE
     by_cases hmn:m=65535-n
     · have hE:=HE.out
       rw [if_pos hmn] at hE
       have HE:=Lib.hid hE
       clear hE
       have t1:(m==65535-n)=true:=by simp [hmn]
       have t2:((m:Int)==((65535-n:Nat):Int))=true:=by rw [hmn]; simp
       have t3:decide (m=65535-n)=true:=decide_eq_true hmn
       go_wp2_with fail
       refine (yV h2.rd hs (by omega) htk).mono ?_
       rintro e w3 ⟨rfl,hR3,hU3⟩
       have h3:=h2.read hU3 hR3
       have c3:=h3.blk.cell 0 rfl
       have hUw3:=hUw2.then (yj (v:=v) (x:=x) hU3)
       clear hU3 hR3 htk
       go_wp2_with fail
       refine (yw _).mono ?_
       rintro e w4 ⟨rfl,rfl⟩
       clear t1 t2 t3 hxor hmn hm hma h2 c2 h1 c1 c0 hU1'
       have hT:=Lib.hid (zev b (n:Nat) w3 s (xA a false+16+16) false h3.rd hs)
       cases hbad:xw s (xA a false+16+16) false (n:Nat) with
       | true =>
         rw [hbad] at hT
         have HE:=Lib.hid (show CP = .error 3 by rw [HE.out,if_pos hbad])
         go_wp2_with fail
         refine hT.out.mono ?_
         rintro e w4 ⟨rfl,hR4,hU4⟩
         have c4:=(h3.blk.upd hU4 (by simpa using h.xb)).cell 0 rfl
         go_wp2_with fail
         refine (yf b w4 _ s _ true hR4).mono ?_
         rintro e w5 ⟨rfl,rfl⟩
         go_wp2
         rw [HE.out]
         exact ⟨rfl,rfl,hUw3.then (yj hU4)⟩
       | false =>
         rw [hbad] at hT
         have hE:CP=if out.length+n≤most then .ok (out++za (xu s (xA a false+16+16) false (n:Nat)),jw s (xA a false+16+16) false (n:Nat)) else .error 4:=by rw [HE.out,if_neg (by rw [hbad]; simp)]
         have hTl:(xu s (xA a false+16+16) false (n:Nat)).size=n:=by
          unfold xu
          rw [hbad,if_neg (by simp)]
          simp [xw] at hbad
          rw [ByteArray.size_extract]
          omega
         generalize xu s (xA a false+16+16) false (n:Nat)=T at *
         generalize jw s (xA a false+16+16) false (n:Nat)=a5 at *
         generalize xA a false+16+16=a4 at *
         have HE:=Lib.hid hE
         clear hE
         go_wp2_with fail
         refine hT.out.mono ?_
         rintro e w4 ⟨rfl,hR4,hU4⟩
         have h4:=h3.read hU4 hR4
         have hUw4:=hUw3.then (yj (v:=v) (x:=x) hU4)
         have c4:=h4.blk.cell 0 rfl
         clear hT hbad hUw3 h3 c3
         go_wp2_with fail
         refine (yf b w4 _ s _ false hR4).mono ?_
         rintro e w5 ⟨rfl,rfl⟩
         by_cases hroom:out.length+n≤most
         · have HE:=Lib.hid (show CP = .ok (out++za T,a5) by rw [HE.out,if_pos hroom])
           go_wp2_with fail
           refine (Yp x b n v _ s _ out most h4 hroom).mono ?_
           rintro e w8 ⟨rfl,k8,rfl⟩
           have h8:=h4.pure ((Upd.refl [] _).drewN k8)
           have hUw8:=hUw4.drewN k8
           clear h4 hUw4 hR4 hU4 c4
           generalize w4.drewN k8=w8 at *
           obtain ⟨va,vc,rfl⟩:=h8.row.form
           have hrow:=h8.row
           have hblk:=h8.blk
           have hcap:=h8.cap
           have c1:=hblk.cell 1 rfl
           have f1:=hblk.frz 1
           have hfx:x∉(Value.slice va out.length vc).ownBlock.toList:=by have:=h8.vx; simpa [eq_comm] using this
           go_wp2_with (at_builtin; refine vX _ rfl _ _ 75 9 rfl 5 i1 Tryz.underlying75 Tryz.underlying9 hi1 hy0 hy1 hy2 (.slice va out.length vc) _ _ rfl hrow T rfl (by unfold maxLen; omega) (by omega) ?_)
           rintro v9 w9 hR9 hU9 hT9
           obtain ⟨va9,vc9,rfl⟩:=hR9.form
           have hB9:=hblk.upd hU9 hfx
           have k9:=hB9.cell 1 rfl
           have f9:=hB9.frz 1
           rw [vI] at hR9
           obtain ⟨hS9,hU',hT'⟩:=h8.push (.refl _ _) (za T) hR9 hU9 hT9 (by rw [zc]; omega) (zV T)
           go_wp2
           go_returns
           rw [HE.out]
           exact ⟨rfl,_,hS9,hUw8.then hU',hT'.imp id fun ⟨g,h1,h2⟩=>⟨g,h1,Nat.le_trans hUw8.size h2⟩⟩
         · have HE:=Lib.hid (show CP = .error 4 by rw [HE.out,if_neg hroom])
           go_wp2_with fail
           refine (KP x b n v _ s _ out most h4 hroom (by omega)).mono ?_
           rintro e w8 ⟨rfl,k8,rfl⟩
           go_wp2
           rw [HE.out]
           exact ⟨rfl,rfl,hUw4.drewN k8⟩
     · have hE:=HE.out
       rw [if_neg hmn] at hE
       have HE:=Lib.hid hE
       clear hE
       have t1:(m==65535-n)=false:=by simp [hmn]
       have t2:((m:Int)==((65535-n:Nat):Int))=false:=by simp; omega
       have t3:decide (m=65535-n)=false:=decide_eq_false hmn
       go_wp2_with fail
       refine (yV h2.rd hs (by omega) htk).mono ?_
       rintro e w3 ⟨rfl,hR3,hU3⟩
       go_wp2_with fail
       refine (yR _).mono ?_
       rintro e w4 ⟨rfl,rfl⟩
       go_wp2
       rw [HE.out]
       exact ⟨rfl,rfl,hUw2.then (yj hU3)⟩
   · have HE:=Lib.hid (show CP = .error 3 by rw [HE.out,htk]; rfl)
     go_wp2_with fail
     refine (xe h2.rd hs (by omega) htk).mono ?_
     rintro e w3 ⟨rfl,hU3⟩
     go_wp2
     rw [HE.out]
     exact ⟨rfl,rfl,hUw2.then (yj hU3)⟩
 · have HE:=Lib.hid (show CP = .error 3 by rw [HS.out,htk]; rfl)
   go_wp2_with fail
   refine (xe h1.rd hs (by omega) htk).mono ?_
   rintro e w3 ⟨rfl,hU3⟩
   go_wp2
   rw [HE.out]
   exact ⟨rfl,rfl,yj (hU1'.then hU3)⟩
end Go.Proofs.YtfkcdnaghndgfaaGreatDoor
namespace Go.Proofs.YtfkcdnaghndgfaaGreatDoor
open Go.RowKit
def zN (n:List Nat) (i:Nat):List Bool:=low (n.getD i 0) (xI (zF n i) (n.getD i 0))
def zgc (n:List Nat) (s:Int):Bool:=decide (0≤s)&&decide (s<(n.length:Int))&&decide (n.getD s.toNat 0≠0)
def KS (n:List Nat) (m:List Int):Bool:=m.all (zgc n)
def yU (n:List Nat) (m:List Int):List Bool:=m.flatMap fun s=>zN n s.toNat
theorem xM (n:List Nat) (i:Nat):(zN n i).length=n.getD i 0:=by rw [zN,zk]
theorem Vh {n:List Nat} {m:List Int} {i:Nat} (h:i<m.length) (h1:KS n m=true):zgc n m[i]=true:=by
 unfold KS at h1
 rw [List.all_eq_true] at h1
 exact h1 _ (List.getElem_mem h)
theorem KJ (n:List Nat) {m:List Int} {i:Nat} (h:i<m.length):yU n (m.take (i+1))=yU n (m.take i)++zN n (m[i]).toNat:=by
 unfold yU; rw [take_snoc' m i h,List.flatMap_append,List.flatMap_cons,List.flatMap_nil,List.append_nil]
theorem zbA (n:List Nat) (m:List Int) (h : ∀ x∈n,x≤15):(yU n m).length≤15*m.length:=by
 induction m with
 | nil=>simp [yU]
 | cons x m ih =>
   have e:yU n (x::m)=zN n x.toNat++yU n m:=rfl
   rw [e,List.length_append,xM,List.length_cons]
   have:n.getD x.toNat 0≤15:=by
    rw [List.getD]
    by_cases hx:x.toNat<n.length
    · rw [List.getElem?_eq_getElem hx]; exact h _ (List.getElem_mem hx)
    · rw [List.getElem?_eq_none (by omega)]; simp
   omega
def zfe (w:World) (b:Nat) (v:Value) (L:List Bool) (ok:Bool) (bits:List Bool) (e:Ending) (w':World):Prop :=
 e = .returned (.bool ok) ∧ ∃ v',WrAt w' b v' (L++bits) ((L++bits).length/8)∧Upd (zU b v) w w'∧Later w v v'
theorem zbj (n:List Nat) (i:Nat) (h:i<n.length):(jq n)[i]? =some (zF n i):=by simp [jq,h]
theorem zfc (n:List Nat) (hps:jf n 16≤32768) (h15 : ∀ x∈n,x≤15) (i:Nat) (h:i<n.length):zF n i<32768∧zF n i<2^(n.getD i 0):=by
 have hle:n.getD i 0≤15:=by rw [List.getD,List.getElem?_eq_getElem h]; exact h15 _ (List.getElem_mem h)
 have hb:=Ja n hps (n.getD i 0) hle
 have hp:2^(n.getD i 0)≤2^15:=Nat.pow_le_pow_right (by omega) hle
 unfold zF
 by_cases h0:n.getD i 0=0
 · rw [if_pos h0,h0]; omega
 · rw [if_neg h0]
   have hc:=Zl n i _ h rfl
   have hcn:cnt n (n.getD i 0)=n.count (n.getD i 0):=by unfold cnt; rw [if_neg h0]
   omega
set_option maxRecDepth 100000 in
set_option maxHeartbeats 3200000 in
theorem ze7 (b:Nat) (v:Value) (L:List Bool) (x y:Option Addr) (cx cy:Nat) (l m:List Int) (w:World) (hm:m.length≤100000000) (hI : ∀ w',Upd (zU b v) w w'→IntsIn w' x l.length l) (hM : ∀ w',Upd (zU b v) w w'→IntsIn w' y m.length m)
 (hW:WrAt w b v L (L.length/8)) (hL:L.length≤1000000000000)
 (hk3:zg l≠3) (hmay:KS (ze l) m=true) :
 Calls Tryz.prog 152 #[.pointer (some ⟨b,0,none⟩),.slice x l.length cx,.slice y m.length cy] w (zfe w b v L true (yU (ze l) m)):=by
 obtain ⟨hok,hps⟩:=xz hk3
 have HO:=Lib.hid hok
 have hnl:=zZ l
 have h300:=(zy hok).1
 have h15:=Lib.hid (Jd hok)
 have hcl:=Lib.hid (fun i h=>zfc (ze l) hps h15.out i h)
 have hC:=zfk x l.length cx l w (by omega) (hI w (.refl _ _))
 have HI:=Lib.hid hI
 have HM:=Lib.hid hM
 have HK:=Lib.hid hk3
 have HY:=Lib.hid hmay
 have hwb:=hW.blk.lt
 have hwv:=hW.row.lt
 clear hI hM hok hps hk3 hmay
 go_enter Tryz.func152,Tryz.ntmps152
 go_wp2_with fail
 refine hC.mono ?_
 rintro e w1 ⟨hU1,⟨h3,_⟩ | ⟨h3,g,rfl,hg,hR⟩⟩
 · exact absurd h3 HK.out
 · clear h3
   have hUv:Upd (zU b v) w w1:=hU1.mono (by simp)
   have hW1:=hW.upd hU1 (by simp) (by simp)
   have hR1:=Lib.hid (fun w' (hU:Upd (zU b v) w1 w')=>Row.upd hR hU (fun k hk hmm=>by
    simp [Value.ownBlock] at hk
    simp only [zU,List.mem_cons] at hmm
    rcases hmm with h | h
    · omega
    · have:=hwv k (by simpa using h); omega))
   have hI1:=HI.out _ hUv
   have hM1:=HM.out _ hUv
   clear hR hW
   go_wp2
   go_loopg [16] m.length (fun g s16 wr => ∃ i,i≤m.length∧g=m.length-i∧s16 = .int .i64 (i:Nat)∧w1=wr)
   case atStart=>exact ⟨0,by omega,rfl,rfl,rfl⟩
   case round =>
    obtain ⟨i,hin,rfl,rfl,rfl⟩:=hrel
    by_cases hc:i<m.length
    · have hcz:(i:Int)<(m.length:Int):=by omega
      obtain ⟨bm,off,rfl,c0,r1,r2⟩:=hM1.cell i hc
      have hmb:=Vh hc HY.out
      simp only [zgc,Bool.and_eq_true,decide_eq_true_eq] at hmb
      generalize m[i]=s at *
      obtain ⟨S,rfl⟩ : ∃ S:Nat,s=(S:Int):=⟨s.toNat,by omega⟩
      have hSl:S<l.length:=by omega
      obtain ⟨bx,offx,rfl,d0,q1,q2⟩:=hI1.cell S hSl
      have hkk:=(zy HO.out).2 _ (List.getElem_mem hSl)
      obtain ⟨k,hk⟩ : ∃ k:Nat,l[S]=(k:Int):=⟨(l[S]).toNat,by omega⟩
      have hnd:(ze l).getD S 0=k:=by rw [List.getD,List.getElem?_eq_getElem (by omega)]; simp [ze,hk]
      rw [hk] at d0
      rw [Int.toNat_natCast,hnd] at hmb
      have hkf:((k:Int)==0)=false:=by simp; omega
      have hlf:decide ((l.length:Int)≤(S:Int))=false:=by simp; omega
      clear hmb hkk hk hnd q1 q2
      go_wp2
      go_roundg (m.length-(i+1))
      case measure=>omega
      case rel=>exact ⟨i+1,by omega,rfl,by go_num,rfl⟩
    · have hcz : ¬ (i:Int)<(m.length:Int):=by omega
      have hi:i=m.length:=by omega
      clear hi hc hin hI1 hM1
      go_wp2
      go_loopg [38] m.length (fun g s38 wr => ∃ j v',j≤m.length∧g=m.length-j∧s38 = .int .i64 (j:Nat)∧WrAt wr b v' (L++yU (ze l) (m.take j)) ((L++yU (ze l) (m.take j)).length/8)∧Upd (zU b v) w1 wr∧Later w1 v v')
      case atStart=>exact ⟨0,v,by omega,rfl,rfl,by simpa [yU] using hW1,.refl _ _,.refl _ _⟩
      case round =>
       obtain ⟨j,v',hjn,rfl,rfl,hWj,hUj,hTj⟩:=hrel
       clear hW1
       by_cases hcj:j<m.length
       · have hcz2:(j:Int)<(m.length:Int):=by omega
         have hUj2:Upd (zU b v) w wr:=hUv.then hUj
         obtain ⟨bm,off,rfl,c0,r1,r2⟩:=(HM.out _ hUj2).cell j hcj
         have hmb:=Vh hcj HY.out
         simp only [zgc,Bool.and_eq_true,decide_eq_true_eq] at hmb
         have hms:=KJ (ze l) hcj
         have hlb:=zbA (ze l) (m.take j) h15.out
         have hlt:(m.take j).length≤j:=by simp; omega
         generalize m[j]=s at *
         obtain ⟨S,rfl⟩ : ∃ S:Nat,s=(S:Int):=⟨s.toNat,by omega⟩
         have hSl:S<l.length:=by omega
         obtain ⟨bx,offx,rfl,d0,q1,q2⟩:=(HI.out _ hUj2).cell S hSl
         have hkk:=(zy HO.out).2 _ (List.getElem_mem hSl)
         obtain ⟨k,hk⟩ : ∃ k:Nat,l[S]=(k:Int):=⟨(l[S]).toNat,by omega⟩
         have hnd:(ze l).getD S 0=k:=by rw [List.getD,List.getElem?_eq_getElem (by omega)]; simp [ze,hk]
         rw [hk] at d0 hkk
         have d2:=Row.cell (hR1.out _ hUj) S (vN _ _ _ (zbj (ze l) S (by omega)))
         have hcc:=hcl.out S (by omega)
         have hsb:zN (ze l) S=low k (xI (zF (ze l) S) k):=by unfold zN; rw [hnd]
         rw [Int.toNat_natCast,hsb] at hms
         rw [hnd] at hcc
         have hms2:=Lib.hid (show L++yU (ze l) (m.take (j+1))=(L++yU (ze l) (m.take j))++low k (xI (zF (ze l) S) k) by rw [hms,List.append_assoc])
         have htn:=WZ (zF (ze l) S) k
         have hlen2:(L++yU (ze l) (m.take j)).length≤1099511627776:=by rw [List.length_append]; omega
         clear hmb hk hnd q1 q2 hms hsb hlb hlt r1 r2
         generalize L++yU (ze l) (m.take j)=M at *
         have hTu:=zbZ (zF (ze l) S) k (zF (ze l) S:Nat) (k:Nat) wr.drew rfl (by omega) (by omega) (Lib.hid (by omega))
         have hBi:=yo b (xI (zF (ze l) S) k) (xI (zF (ze l) S) k:Nat) (k:Nat) k wr.drew v' M rfl (Nat.lt_of_lt_of_le htn (Nat.le_trans (Nat.pow_le_pow_right (by omega) (show k≤15 by omega)) (by decide))) (hWj.upd ((Upd.refl [] _).drew) (by simp) (by simp)) (by omega) (by omega) (Lib.hid (by omega))
         have HTu:=Lib.hid hTu
         have HBi:=Lib.hid hBi
         have htb:xI (zF (ze l) S) k<4294967296:=Nat.lt_of_lt_of_le htn (Nat.le_trans (Nat.pow_le_pow_right (by omega) (show k≤15 by omega)) (by decide))
         clear hTu hBi htn
         generalize xI (zF (ze l) S) k=t at *
         generalize zF (ze l) S=c at *
         go_wp2
         refine wp_region_still_tail 14 (by kernel_rfl) (by kernel_rfl) ?_
         simp only [List.take_succ_cons,List.take_zero,List.drop_succ_cons,List.drop_zero]
         repeat still_step
         still_call (HTu.out.mono fun e w' ⟨he,hw⟩=>⟨he,hw.symm⟩)
         repeat still_step
         try refine wpStill_nil ?_
         change wpList _ _ _ _ _ wr.drew
         go_wp2_with fail
         refine HBi.out.mono ?_
         rintro e w3 ⟨rfl,v3,hW3,hU3,hT3⟩
         go_wp2
         go_roundg (m.length-(j+1))
         case measure=>omega
         case rel =>
          refine ⟨j+1,v3,by omega,rfl,by go_num,by rw [hms2.out]; exact hW3,(hUj.drew).trans hU3 ?_,hTj.trans hUj.size hT3⟩
          intro q hq
          simp only [zU,List.mem_cons] at hq ⊢
          rcases hq with h | h
          · exact .inl (.inl h)
          · exact (hTj.fp q h).imp .inr id
       · have hj:j=m.length:=by omega
         have hcz2 : ¬ (j:Int)<(m.length:Int):=by omega
         rw [hj,List.take_length] at hWj
         clear hj
         go_wp2
         go_returns
         refine ⟨rfl,v',hWj,hUv.then hUj,?_⟩
         exact hTj.imp id fun ⟨g',h1,h2⟩=>⟨g',h1,Nat.le_trans hU1.size h2⟩
end Go.Proofs.YtfkcdnaghndgfaaGreatDoor
namespace Go.Proofs.YtfkcdnaghndgfaaGreatDoor
open Go.RowKit
theorem IntsIn.far {w w':World} {a:Option Addr} {len:Nat} {l:List Int} {fp:List Nat} (h:IntsIn w a len l) (hU:Upd fp w w') (hf : ∀ k∈fp,w.heap.size≤k):IntsIn w' a len l :=
 ⟨h.len,fun i hi=>by
  obtain ⟨b,off,e,c,r⟩:=h.cell i hi
  have hb:b<w.heap.size:=World.block_lt_of_cell? w _ c
  exact ⟨b,off,e,(hU.at hb (fun hm=>by have:=hf b hm; omega) _).trans c,r⟩⟩
end Go.Proofs.YtfkcdnaghndgfaaGreatDoor
