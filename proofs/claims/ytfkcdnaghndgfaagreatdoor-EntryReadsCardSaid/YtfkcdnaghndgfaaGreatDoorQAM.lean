/- Package inflate: one block: plain, and its walk. -/
import Derived.Laws.CopyOwn
import Derived.Test.YtfkcdnaghndgfaaGreatDoorQAC
import Derived.Test.YtfkcdnaghndgfaaGreatDoorQAB
import Derived.Test.YtfkcdnaghndgfaaGreatDoorQAL
import Derived.Recover
import Derived.Lib.MinMax
set_option linter.unusedVariables false
set_option linter.unusedSimpArgs false
set_option linter.unusedSectionVars false
namespace Go.Proofs.YtfkcdnaghndgfaaGreatDoor
open Go.RowKit
theorem IntsIn.of_row {w:World} {g n cap:Nat} {U:List Nat} (h:Row w 3 1 (.slice (some ⟨g,0,none⟩) n cap) n (zf U)) (hb : ∀ x∈U,x≤1099511627776):IntsIn w (some ⟨g,0,none⟩) (U.map fun x:Nat=>(x:Int)).length (U.map fun x:Nat=>(x:Int)) :=
 ⟨rfl,fun i hi=>by
  have hi':i<U.length:=by simpa using hi
  refine ⟨g,0,rfl,?_,?_⟩
  · rw [Nat.zero_add,Row.cell h i (zt _ _ _ (List.getElem?_eq_getElem hi'))]; simp
  · have:=hb _ (List.getElem_mem hi')
    simp only [List.getElem_map]; omega⟩
theorem ym {α β:Type} {x:Except Nat α} {f:α→Except Nat β} {y:β} (h:x >>= f = .ok y) : ∃ r,x = .ok r∧f r = .ok y:=by
 cases x with
 | error c=>cases h
 | ok r=>exact ⟨r,rfl,h⟩
theorem VZ {α β:Type} {x:Except Nat α} {f:α→β} {y:β} (h:x.map f = .ok y) : ∃ r,x = .ok r∧f r=y:=by
 cases x with
 | error c=>cases h
 | ok r=>cases h; exact ⟨r,rfl,rfl⟩
def Qp:List Int:=ints (xG 4)
def QJ:List Int:=ints (List.replicate 32 5)
def Kp (s:ByteArray) (most F:Nat) (out:List Nat) (r:(List Nat×List Nat)×Nat):Except Nat (List Nat×Nat):=yS (ints r.1.1) (ints r.1.2) s most F out r.2
def qp (s:ByteArray) (most F:Nat) (out:List Nat) (r:Nat×Nat):Except Nat (List Nat×Nat) :=
 if r.1=0 then jk s most out r.2 else
  if r.1=1 then yS Qp QJ s most F out r.2 else
   if r.1=2 then yT s r.2 >>= Kp s most F out else .error 2
def Jp (k:Nat) (q:List Nat×Nat):Except Nat ((Bool×List Nat)×Nat) := .ok ((k==1,q.1),q.2)
def kq (s:ByteArray) (most F:Nat) (out:List Nat) (a:Nat):Except Nat ((Bool×List Nat)×Nat) :=
 zp s a 1 >>= fun r=>(zp s r.2 2 >>= qp s most F out) >>= Jp r.1
theorem zhq (a:Nat):a≤xA a false:=by unfold xA; simp; omega
theorem zbk {s:ByteArray} {most:Nat} {out out':List Nat} {a a':Nat} (h:jk s most out a = .ok (out',a')):a≤a':=by
 obtain ⟨r,h1,h2⟩:=ym h
 obtain ⟨r2,h3,h4⟩:=ym h2
 have e1:=yE h1
 have e2:=yE h3
 have e0:=zhq a
 unfold xp at h4
 split at h4
 · split at h4
   · cases h4
   · rename_i hb
     split at h4
     · cases h4
       unfold jw
       rw [if_neg hb]
       omega
     · cases h4
 · cases h4
theorem YZ {l1 l2:List Int} {s:ByteArray} {most:Nat} : ∀ (g:Nat) {out out':List Nat} {a a':Nat},yS l1 l2 s most g out a = .ok (out',a')→a≤a':=by
 intro g
 induction g with
 | zero=>intro out out' a a' h; cases h
 | succ g ih =>
   intro out out' a a' h
   obtain ⟨⟨sym,a1⟩,h1,h2⟩:=ym h
   have e1:=jA h1
   unfold qo at h2
   simp only at h2
   split at h2
   · cases h2; omega
   · split at h2
     · split at h2
       · have:=ih h2; omega
       · cases h2
     · obtain ⟨⟨o,a2⟩,h3,h4⟩:=ym h2
       have e2:=YY h3
       have:=ih h4
       simp only at this
       omega
theorem zbn {s:ByteArray} {sym:Nat} {L:List Nat} {a a':Nat} {r:Nat×Nat} (h:xa s sym L a = .ok (r,a')):a≤a':=by
 unfold xa at h
 split at h
 · split at h
   · cases h
   · obtain ⟨q,h1,h2⟩:=VZ h; have:=yE h1; cases h2; exact this
 · split at h
   · obtain ⟨q,h1,h2⟩:=VZ h; have:=yE h1; cases h2; exact this
   · obtain ⟨q,h1,h2⟩:=VZ h; have:=yE h1; cases h2; exact this
theorem zfq {s:ByteArray} {k:Nat} {L:List Nat} {a a':Nat} {r:Nat×Nat} (h:xS s k L a = .ok (r,a')):a≤a':=by
 unfold xS at h
 split at h
 · exact zbn h
 · cases h; omega
theorem zgY {l:List Int} {s:ByteArray} {many:Nat} : ∀ (f:Nat) {L L':List Nat} {a a':Nat},qi l s many f L a = .ok (L',a')→a≤a':=by
 intro f
 induction f with
 | zero=>intro L L' a a' h; cases h; omega
 | succ f ih =>
   intro L L' a a' h
   simp only [qi] at h
   split at h
   · split at h
     · cases h
     · rename_i r hr
       have e1:=jA (x:=r.1) (a':=r.2) hr
       split at h
       · cases h
       · rename_i q hq
         have e2:=zfq (r:=q.1) (a':=q.2) hq
         split at h
         · have:=ih h; omega
         · cases h
   · cases h; omega
theorem zbL {s:ByteArray} : ∀ (m:Nat) {i:Nat} {L L':List Nat} {a a':Nat},xh s m i L a = .ok (L',a')→a≤a':=by
 intro m
 induction m with
 | zero=>intro i L L' a a' h; cases h; omega
 | succ m ih =>
   intro i L L' a a' h
   simp only [xh] at h
   split at h
   · cases h
   · rename_i r hr
     have e1:=yE (v:=r.1) (a':=r.2) hr
     have:=ih h
     omega
theorem jQ {s:ByteArray} {a a':Nat} {A B:List Nat} (h:yT s a = .ok ((A,B),a')):a≤a'∧A.length≤286∧B.length≤30 ∧ ∀ x∈A++B,x≤15:=by
 obtain ⟨⟨n,a1⟩,h1,h⟩:=ym h
 obtain ⟨⟨m,a2⟩,h2,h⟩:=ym h
 obtain ⟨⟨k,a3⟩,h3,h⟩:=ym h
 have e1:=yE h1
 have e2:=yE h2
 have e3:=yE h3
 simp only at e2 e3 h
 unfold xr at h
 split at h
 · rename_i hnm
   obtain ⟨⟨L,a4⟩,h4,h⟩:=ym h
   have e4:=zbL _ h4
   unfold qB at h
   split at h
   · obtain ⟨⟨L',a5⟩,h5,h⟩:=ym h
     have e5:=zgY _ h5
     obtain ⟨hl,h15⟩:=zdf _ _ _ _ _ (by simp) (by simp) (by simp) h5
     unfold kp at h
     split at h
     · split at h
       · cases h
         dsimp only at *
         refine ⟨by omega,by rw [List.length_take]; omega,by rw [List.length_drop]; omega,?_⟩
         rw [List.take_append_drop]; exact h15
       · cases h
     · cases h
   · cases h
 · cases h
theorem YT {s:ByteArray} {most F k:Nat} {out out':List Nat} {a a':Nat} (h:qp s most F out (k,a) = .ok (out',a')):a≤a':=by
 unfold qp at h
 split at h
 · exact zbk h
 · split at h
   · exact YZ _ h
   · split at h
     · obtain ⟨⟨⟨A,B⟩,a1⟩,h1,h2⟩:=ym h
       have:=(jQ h1).1
       have:=YZ _ (show yS (ints A) (ints B) s most F out a1 = .ok (out',a') from h2)
       simp only at *
       omega
     · cases h
theorem Ql {s:ByteArray} {a n v a':Nat} (h:zp s a n = .ok (v,a')):a'=a+n:=by
 unfold zp at h
 split at h
 · cases h; rfl
 · cases h
theorem zbW {s:ByteArray} {most F:Nat} {out out':List Nat} {a a':Nat} {l:Bool} (h:kq s most F out a = .ok ((l,out'),a')):a<a':=by
 obtain ⟨⟨v,a1⟩,h1,h⟩:=ym h
 obtain ⟨⟨o,a3⟩,h2,h3⟩:=ym h
 obtain ⟨⟨k,a2⟩,h4,h5⟩:=ym h2
 have e1:=Ql h1
 have e2:=Ql h4
 have e3:=YT h5
 unfold Jp at h3
 cases h3
 simp only at e2 e3 ⊢
 omega
def zd9 (w:World) (x b:Nat) (v:Value) (s:ByteArray) (most:Nat) (r:Except Nat ((Bool×List Nat)×Nat)) (e:Ending) (w':World):Prop :=
 match r with
 | .ok ((l,out),a')=>e = .returned (.bool l) ∧ ∃ v',StAt w' x b v' s a' out most∧Upd (yO x b v) w w'∧Later w v v'
 | .error c=>e = .panicked [{ v := .iface 27 (.int .i64 (c:Nat)),recovered:=false }]∧Upd (yO x b v) w w'
theorem qy:Qp.length=288∧QJ.length=32:=by
 have hL4:(xG 4).length=288:=by
  unfold xG qc
  simp only [List.take_succ_cons,List.take_nil,List.flatMap_cons,List.flatMap_nil,List.length_append,List.length_replicate,List.length_nil]
 exact ⟨by unfold Qp; rw [zn,hL4],by unfold QJ; rw [zn]; simp⟩
theorem zcS (x:Nat) (h:x∈xG 4):x≤9:=by
 unfold xG qc at h
 simp only [List.take_succ_cons,List.take_nil,List.flatMap_cons,List.flatMap_nil,List.mem_append,List.mem_replicate,List.not_mem_nil,or_false] at h
 omega
theorem zgV (w:World):Calls Tryz.prog 122 #[] w fun e w' => ∃ a1 c1 a2,e = .returned (.tuple #[.slice a1 288 c1,.slice a2 32 32])∧IntsIn w' a1 288 Qp∧IntsIn w' a2 32 QJ∧Upd [] w w':=by
 refine (QB w).mono ?_
 rintro e w' ⟨g1,c1,g2,rfl,hR1,hR2,hU,_,_⟩
 refine ⟨_,c1,_,rfl,?_,?_,hU⟩
 · have h:=IntsIn.of_row hR1 (fun x hx=>Nat.le_trans (zcS x hx) (by omega))
   have e:=qy.1
   unfold Qp ints at e ⊢
   rw [e] at h
   exact h
 · have h:=IntsIn.of_row hR2 (fun x hx=>by rw [(List.mem_replicate.1 hx).2]; omega)
   have e:=qy.2
   unfold QJ ints at e ⊢
   rw [e] at h
   exact h
theorem zaM {w0 w w':World} {x b:Nat} {v0 v:Value} (h1:Upd (yO x b v0) w0 w) (h2:Later w0 v0 v) (hU:Upd (yO x b v) w w'):Upd (yO x b v0) w0 w' :=
 h1.trans hU (fun k hk=>by
  simp only [yO,List.mem_cons] at hk ⊢
  rcases hk with hk | hk | hk
  · exact .inl (.inl hk)
  · exact .inl (.inr (.inl hk))
  · exact (h2.fp k hk).imp (fun h => .inr (.inr h)) id)
theorem zer {b:Nat} {w:World} {s:ByteArray} {a a':Nat} {A B:List Nat} (hR:RdAt w b 194 s a false) (hs:s.size≤1099511627776) (h:yT s a = .ok ((A,B),a')) :
 Calls Tryz.prog 142 #[.agg #[.pointer (some ⟨b,0,none⟩)]] w fun e w' => ∃ g cap,e = .returned (.tuple #[.slice (some ⟨g,0,none⟩) A.length cap,.slice (some ⟨g,A.length,none⟩) B.length (cap-A.length)]) ∧
  IntsIn w' (some ⟨g,0,none⟩) A.length (ints A)∧IntsIn w' (some ⟨g,A.length,none⟩) B.length (ints B)∧RdAt w' b 194 s a' false∧Upd [b] w w'∧w.heap.size≤g:=by
 have h1:=Yz b w s a hR hs
 rw [h] at h1
 refine h1.mono ?_
 rintro e w' ⟨g,n,cap,rfl,rfl,hRow,hR',hU,hg⟩
 have h15 : ∀ x∈A++B,x≤1099511627776:=fun x hx=>Nat.le_trans ((jQ h).2.2.2 x hx) (by omega)
 refine ⟨g,cap,rfl,?_,?_,hR',hU,hg⟩
 · have:=IntsIn.part hRow h15 0 A.length (by simp)
   rw [List.drop_zero,List.take_left' rfl,zn] at this
   exact this
 · have:=IntsIn.part hRow h15 A.length B.length (by simp)
   rw [List.drop_left' rfl,List.take_of_length_le (Nat.le_refl _),zn] at this
   exact this
theorem zbp {b:Nat} {w:World} {s:ByteArray} {a c:Nat} (hR:RdAt w b 194 s a false) (hs:s.size≤1099511627776) (h:yT s a = .error c) :
 Calls Tryz.prog 142 #[.agg #[.pointer (some ⟨b,0,none⟩)]] w fun e w'=>e = .panicked [{ v := .iface 27 (.int .i64 (c:Nat)),recovered:=false }]∧Upd [b] w w':=by
 have h1:=Yz b w s a hR hs
 rwa [h] at h1
theorem zfN {x b:Nat} {v:Value} {w:World} {s:ByteArray} {a:Nat} {out:List Nat} {most:Nat} {out':List Nat} {a':Nat} (h:StAt w x b v s a out most) (hs:s.size≤1099511627776) (hc:jk s most out a = .ok (out',a')) :
 Calls Tryz.prog 140 #[.pointer (some ⟨x,0,none⟩)] w fun e w'=>e = .returned (.tuple #[]) ∧ ∃ v',StAt w' x b v' s a' out' most∧Upd (yO x b v) w w'∧Later w v v':=by
 have:=Vl x b v w s a out most h hs
 rwa [hc] at this
theorem zdA {x b:Nat} {v:Value} {w:World} {s:ByteArray} {a:Nat} {out:List Nat} {most c:Nat} (h:StAt w x b v s a out most) (hs:s.size≤1099511627776) (hc:jk s most out a = .error c) :
 Calls Tryz.prog 140 #[.pointer (some ⟨x,0,none⟩)] w fun e w'=>e = .panicked [{ v := .iface 27 (.int .i64 (c:Nat)),recovered:=false }]∧Upd (yO x b v) w w':=by
 have:=Vl x b v w s a out most h hs
 rwa [hc] at this
theorem YA {x b F:Nat} {a1 a2:Option Addr} {n1 c1 n2 c2:Nat} {v:Value} {l1 l2:List Int} {w:World} {s:ByteArray} {a:Nat} {out:List Nat} {most:Nat} {out':List Nat} {a':Nat} (h:StAt w x b v s a out most) (hs:s.size≤1099511627776)
 (hI1:IntsIn w a1 n1 l1) (hI2:IntsIn w a2 n2 l2) (hl1:l1.length≤300) (hl2:l2.length≤300) (hF:8*s.size<F+a) (hc:yS l1 l2 s most F out a = .ok (out',a')) :
 Calls Tryz.prog 141 #[.pointer (some ⟨x,0,none⟩),.slice a1 n1 c1,.slice a2 n2 c2] w fun e w'=>e = .returned (.tuple #[]) ∧ ∃ v',StAt w' x b v' s a' out' most∧Upd (yO x b v) w w'∧Later w v v':=by
 have:=Zd x b F a1 a2 n1 c1 n2 c2 v l1 l2 w s a out most h hs hI1 hI2 hl1 hl2 hF
 rwa [hc] at this
theorem Zo {x b F:Nat} {a1 a2:Option Addr} {n1 c1 n2 c2:Nat} {v:Value} {l1 l2:List Int} {w:World} {s:ByteArray} {a:Nat} {out:List Nat} {most c:Nat} (h:StAt w x b v s a out most) (hs:s.size≤1099511627776)
 (hI1:IntsIn w a1 n1 l1) (hI2:IntsIn w a2 n2 l2) (hl1:l1.length≤300) (hl2:l2.length≤300) (hF:8*s.size<F+a) (hc:yS l1 l2 s most F out a = .error c) :
 Calls Tryz.prog 141 #[.pointer (some ⟨x,0,none⟩),.slice a1 n1 c1,.slice a2 n2 c2] w fun e w'=>e = .panicked [{ v := .iface 27 (.int .i64 (c:Nat)),recovered:=false }]∧Upd (yO x b v) w w':=by
 have:=Zd x b F a1 a2 n1 c1 n2 c2 v l1 l2 w s a out most h hs hI1 hI2 hl1 hl2 hF
 rwa [hc] at this
set_option maxRecDepth 100000 in
set_option maxHeartbeats 6400000 in
theorem Vo (x b F:Nat) (v:Value) (w:World) (s:ByteArray) (a:Nat) (out:List Nat) (most:Nat) (h:StAt w x b v s a out most) (hs:s.size≤1099511627776) (hF:8*s.size<F) :
 Calls Tryz.prog 98 #[.pointer (some ⟨x,0,none⟩)] w (zd9 w x b v s most (kq s most F out a)):=by
 have HS:=Lib.hid (show kq s most F out a=(zp s a 1 >>= fun r=>(zp s r.2 2 >>= qp s most F out) >>= Jp r.1) by rfl)
 generalize kq s most F out a=CP at *
 have c0:=h.blk.cell 0 rfl
 go_enter Tryz.func98,Tryz.ntmps98
 rcases zA s a 1 with ⟨l,hl,hla,htk⟩ | htk
 · have HE:=Lib.hid (show CP=((zp s (a+1) 2 >>= qp s most F out) >>= Jp l) by rw [HS.out,htk]; rfl)
   clear HS
   go_wp2_with fail
   refine (yV h.rd hs (by omega) htk).mono ?_
   rintro e w1 ⟨rfl,hR1,hU1⟩
   have h1:=h.read hU1 hR1
   have hUw1:=yj (v:=v) (x:=x) hU1
   have c1:=h1.blk.cell 0 rfl
   obtain ⟨bl,hbl⟩ : ∃ bl,bl=(l==1):=⟨_,rfl⟩
   have hb1:((l:Int)==1)=bl:=by rw [hbl]; rcases l with _ | _ | l<;>first | rfl | omega
   have HBL:=Lib.hid hbl
   clear hbl hR1 hU1 htk c0
   rcases zA s (a+1) 2 with ⟨k,hk,hka,htk⟩ | htk
   · have hE:CP=(qp s most F out (k,a+1+2) >>= Jp l):=by rw [HE.out,htk]; rfl
     have HE:=Lib.hid hE
     clear hE
     have hF1:8*s.size<F+(a+1+2):=by omega
     have hT0:=Later.refl w v
     rcases k with _ | _ | _ | k
     · go_wp2_with fail
       refine (yV h1.rd hs (by omega) htk).mono ?_
       rintro e w2 ⟨rfl,hR2,hU2⟩
       have h2:=h1.read hU2 hR2
       have hUw2:=hUw1.then (yj (v:=v) (x:=x) hU2)
       have hE:CP=(jk s most out (a+1+2) >>= Jp l):=HE.out
       cases hst:jk s most out (a+1+2) with
       | error c =>
         have HE:=Lib.hid (show CP = .error c by rw [hE,hst]; rfl)
         clear hE
         go_wp2_with fail
         refine (zdA h2 hs hst).mono ?_
         rintro e w3 ⟨rfl,hU3⟩
         go_wp2
         rw [HE.out]
         exact ⟨rfl,rfl,hUw2.then hU3⟩
       | ok q =>
         obtain ⟨o,a5⟩:=q
         have HE:=Lib.hid (show CP = .ok ((bl,o),a5) by rw [hE,hst,HBL.out]; rfl)
         clear hE
         go_wp2_with fail
         refine (zfN h2 hs hst).mono ?_
         rintro e w3 ⟨rfl,v3,hS3,hU3,hT3⟩
         go_wp2
         go_returns
         rw [HE.out]
         exact ⟨rfl,v3,hS3,hUw2.then hU3,hT0.trans hUw2.size hT3⟩
     · go_wp2_with fail
       refine (yV h1.rd hs (by omega) htk).mono ?_
       rintro e w2 ⟨rfl,hR2,hU2⟩
       have h2:=h1.read hU2 hR2
       have hUw2:=hUw1.then (yj (v:=v) (x:=x) hU2)
       have hE:CP=(yS Qp QJ s most F out (a+1+2) >>= Jp l):=HE.out
       go_wp2_with fail
       refine (zgV w2).mono ?_
       rintro e w3 ⟨p1,c1',p2,rfl,hI1,hI2,hU3⟩
       have h3:=h2.pure hU3
       have hUw3:=hUw2.then (kR (v:=v) (x:=x) (b:=b) hU3)
       have hfl:=qy
       cases hst:yS Qp QJ s most F out (a+1+2) with
       | error c =>
         have HE:=Lib.hid (show CP = .error c by rw [hE,hst]; rfl)
         clear hE
         go_wp2_with fail
         refine (Zo h3 hs hI1 hI2 (by omega) (by omega) hF1 hst).mono ?_
         rintro e w4 ⟨rfl,hU4⟩
         go_wp2
         rw [HE.out]
         exact ⟨rfl,rfl,hUw3.then hU4⟩
       | ok q =>
         obtain ⟨o,a5⟩:=q
         have HE:=Lib.hid (show CP = .ok ((bl,o),a5) by rw [hE,hst,HBL.out]; rfl)
         clear hE
         go_wp2_with fail
         refine (YA h3 hs hI1 hI2 (by omega) (by omega) hF1 hst).mono ?_
         rintro e w4 ⟨rfl,v4,hS4,hU4,hT4⟩
         go_wp2
         go_returns
         rw [HE.out]
         exact ⟨rfl,v4,hS4,hUw3.then hU4,hT0.trans hUw3.size hT4⟩
     · go_wp2_with fail
       refine (yV h1.rd hs (by omega) htk).mono ?_
       rintro e w2 ⟨rfl,hR2,hU2⟩
       have h2:=h1.read hU2 hR2
       have c2:=h2.blk.cell 0 rfl
       have hUw2:=hUw1.then (yj (v:=v) (x:=x) hU2)
       have hE:CP=((yT s (a+1+2) >>= Kp s most F out) >>= Jp l):=HE.out
       cases htb:yT s (a+1+2) with
       | error c =>
         have HE:=Lib.hid (show CP = .error c by rw [hE,htb]; rfl)
         clear hE
         go_wp2_with fail
         refine (zbp h2.rd hs htb).mono ?_
         rintro e w3 ⟨rfl,hU3⟩
         go_wp2
         rw [HE.out]
         exact ⟨rfl,rfl,hUw2.then (yj hU3)⟩
       | ok q =>
         obtain ⟨⟨A,B⟩,a4⟩:=q
         have hE2:CP=(yS (ints A) (ints B) s most F out a4 >>= Jp l):=by rw [hE,htb]; rfl
         obtain ⟨hadv,hAl,hBl,_⟩:=jQ htb
         have HE:=Lib.hid hE2
         clear hE hE2
         go_wp2_with fail
         refine (zer h2.rd hs htb).mono ?_
         rintro e w3 ⟨g,cap,rfl,hI1,hI2,hR3,hU3,hg⟩
         have h3:=h2.read hU3 hR3
         have hUw3:=hUw2.then (yj (v:=v) (x:=x) hU3)
         have hl1:=zn A
         have hl2:=zn B
         cases hst:yS (ints A) (ints B) s most F out a4 with
         | error c =>
           have HE:=Lib.hid (show CP = .error c by rw [HE.out,hst]; rfl)
           go_wp2_with fail
           refine (Zo h3 hs hI1 hI2 (by omega) (by omega) (by omega) hst).mono ?_
           rintro e w4 ⟨rfl,hU4⟩
           go_wp2
           rw [HE.out]
           exact ⟨rfl,rfl,hUw3.then hU4⟩
         | ok q =>
           obtain ⟨o,a5⟩:=q
           have HE:=Lib.hid (show CP = .ok ((bl,o),a5) by rw [HE.out,hst,HBL.out]; rfl)
           go_wp2_with fail
           refine (YA h3 hs hI1 hI2 (by omega) (by omega) (by omega) hst).mono ?_
           rintro e w4 ⟨rfl,v4,hS4,hU4,hT4⟩
           go_wp2
           go_returns
           rw [HE.out]
           exact ⟨rfl,v4,hS4,hUw3.then hU4,hT0.trans hUw3.size hT4⟩
     · have HE:=Lib.hid (show CP = .error 2 by rw [HE.out]; rfl)
       have hk0:k=0:=by omega
       subst hk0
       go_wp2_with fail
       refine (yV h1.rd hs (by omega) htk).mono ?_
       rintro e w2 ⟨rfl,hR2,hU2⟩
       go_wp2_with fail
       refine (yR _).mono ?_
       rintro e w3 ⟨rfl,rfl⟩
       go_wp2
       rw [HE.out]
       exact ⟨rfl,rfl,hUw1.then (yj hU2)⟩
   · have HE:=Lib.hid (show CP = .error 3 by rw [HE.out,htk]; rfl)
     go_wp2_with fail
     refine (xe h1.rd hs (by omega) htk).mono ?_
     rintro e w2 ⟨rfl,hU2⟩
     go_wp2
     rw [HE.out]
     exact ⟨rfl,rfl,hUw1.then (yj hU2)⟩
 · have HE:=Lib.hid (show CP = .error 3 by rw [HS.out,htk]; rfl)
   go_wp2_with fail
   refine (xe h.rd hs (by omega) htk).mono ?_
   rintro e w1 ⟨rfl,hU1⟩
   go_wp2
   rw [HE.out]
   exact ⟨rfl,rfl,yj hU1⟩
end Go.Proofs.YtfkcdnaghndgfaaGreatDoor
namespace Go.Proofs.YtfkcdnaghndgfaaGreatDoor
open Go.RowKit
theorem KE (v:Value) (xT:TypeId) (w:World):(Instr.typeAssert (.iface 27 v) xT 27 true).run Tryz.prog w = .ok (.tuple #[v,.bool true]) w:=by
 simp [Instr.typeAssert,run_underlying Tryz.underlying27,go_sem,Result.andThen]
set_option maxRecDepth 100000 in
set_option maxHeartbeats 1600000 in
theorem QK (p:Addr) (x:Value) (c:Int) (older:List PanicEntry) (w:World) (hx:w.cell? p=some x) (hz:w.frozen? p=false) :
 CallsD Tryz.prog 96 #[.pointer (some p)] (.panicking ({ v := .iface 27 (.int .i64 c),recovered:=false }::older)) w fun e u' w' =>
  e = .returned (.tuple #[])∧u' = .panicking ({ v := .iface 27 (.int .i64 c),recovered:=true }::older)∧w'=w.setCell p (.int .i64 c):=by
 have hta:=KE (.int .i64 c) 20
 refine callsD_of_wpS Tryz.func96 rfl fun c₀ cs hu=>?_
 apply wpS_seq
 apply wpS_region
 simp [wpOpsS,go_sem,recoverD,hu,Tryz.ntmps96,Exit.thenS]
 refine wpS_of_wp ?_
 go_wp2
 simp [bodyPostS,results,Tryz.results96]
set_option maxRecDepth 100000 in
set_option maxHeartbeats 1600000 in
theorem za1 (p:Addr) (w:World) :
 CallsD Tryz.prog 96 #[.pointer (some p)] .returning w fun e u' w'=>e = .returned (.tuple #[])∧u' = .returning∧w'=w:=by
 refine callsD_of_wpS Tryz.func96 rfl fun c₀ cs hu=>?_
 apply wpS_seq
 apply wpS_region
 simp [wpOpsS,go_sem,recoverD,hu,Tryz.ntmps96,Exit.thenS]
 refine wpS_of_wp ?_
 go_wp2
 cases c₀
 simp_all [bodyPostS,results,Tryz.results96]
end Go.Proofs.YtfkcdnaghndgfaaGreatDoor
namespace Go.Proofs.YtfkcdnaghndgfaaGreatDoor
open Go.RowKit
def zgv (k:List Nat→Nat→Except Nat (List Nat×Nat)) (r:(Bool×List Nat)×Nat):Except Nat (List Nat×Nat):=if r.1.1=true then .ok (r.1.2,r.2) else k r.1.2 r.2
def qN (s:ByteArray) (most F:Nat):Nat→List Nat→Nat→Except Nat (List Nat×Nat)
 | 0,_,_ => .error 0
 | g+1,out,a=>kq s most F out a >>= zgv (qN s most F g)
def ZV (most:Int):Nat:=(max 0 (min most 65000)).toNat
def ofP (s:ByteArray) (most:Int):Except Nat (List Nat×Nat):=qN s (ZV most) (8*s.size+1) (8*s.size+1) [] 0
def za5:Except Nat (List Nat×Nat)→Value
 | .ok (out,a) => .tuple #[.string (zd out),.int .i64 ((a+7)/8:Nat),.int .i64 0]
 | .error c => .tuple #[.string ⟨#[]⟩,.int .i64 0,.int .i64 (c:Nat)]
theorem of_upd {w w3 w':World} {bw x b:Nat} {v0:Value} (hbw:bw=w.heap.size) (h0:Upd [] w w3) (h:Upd (yO x b v0) w3 w') (hfp : ∀ k∈yO x b v0,bw<k):Upd [] w w' :=
 h0.trans h fun k hk => .inr (by have:=hfp k hk; omega)
theorem zhK {P:Program} {c:Code} {K:Act→World→Prop} {Q:Exit→Act→World→Prop} {a:Act} {w:World} (h:c.wp P (Exit.then K fun _ _ _=>False) a w):c.wp P (Exit.then K Q) a w :=
 Code.wp_mono (fun e a w h=>by cases e<;>first | exact h | exact h.elim) h
theorem WV {x b F:Nat} {v:Value} {w:World} {s:ByteArray} {a:Nat} {out:List Nat} {most:Nat} {l:Bool} {out':List Nat} {a':Nat} (h:StAt w x b v s a out most) (hs:s.size≤1099511627776) (hF:8*s.size<F) (hc:kq s most F out a = .ok ((l,out'),a')) :
 Calls Tryz.prog 98 #[.pointer (some ⟨x,0,none⟩)] w fun e w'=>e = .returned (.bool l) ∧ ∃ v',StAt w' x b v' s a' out' most∧Upd (yO x b v) w w'∧Later w v v':=by
 have:=Vo x b F v w s a out most h hs hF
 rwa [hc] at this
theorem zdC {x b F:Nat} {v:Value} {w:World} {s:ByteArray} {a:Nat} {out:List Nat} {most c:Nat} (h:StAt w x b v s a out most) (hs:s.size≤1099511627776) (hF:8*s.size<F) (hc:kq s most F out a = .error c) :
 Calls Tryz.prog 98 #[.pointer (some ⟨x,0,none⟩)] w fun e w'=>e = .panicked [{ v := .iface 27 (.int .i64 (c:Nat)),recovered:=false }]∧Upd (yO x b v) w w':=by
 have:=Vo x b F v w s a out most h hs hF
 rwa [hc] at this
set_option maxRecDepth 100000 in
set_option maxHeartbeats 6400000 in
theorem zhh (s:ByteArray) (most:Int) (w:World) (hs:s.size≤1099511627776) :
 Calls Tryz.prog 63 #[.string s,.int .i64 most] w fun e w'=>e = .returned (za5 (ofP s most))∧Upd [] w w':=by
 have HS:=Lib.hid (show ofP s most=qN s (ZV most) (8*s.size+1) (8*s.size+1) [] 0 by rfl)
 generalize ofP s most=CP at *
 obtain ⟨M,hM⟩ : ∃ M,M=ZV most:=⟨_,rfl⟩
 have hM65:M≤65000:=by rw [hM]; unfold ZV; omega
 have hMc:max 0 (min most 65000)=(M:Int):=by rw [hM]; unfold ZV; omega
 rw [← hM] at HS
 clear hM
 go_enter_defers Tryz.func63,Tryz.ntmps63
 go_wp2_with fail
 have hU1:Upd [] w (w.alloc (Obj.cells #[.int .i64 0] 27)):=(Upd.refl [] w).alloc _
 have hW1:=Blk.new w [.int .i64 0] 27
 have hs1:(w.alloc (Obj.cells #[.int .i64 0] 27)).heap.size=w.heap.size+1:=World.size_alloc _ _
 generalize w.alloc (Obj.cells #[.int .i64 0] 27)=w1 at *
 refine (zgN s w1).mono ?_
 rintro e w2 ⟨rfl,rfl⟩
 go_wp2
 obtain ⟨w3,hw3⟩ : ∃ w3,w3=(w1.alloc (Obj.cells #[.string s,.int .i64 0,.bool false] 194)).alloc (Obj.cells #[.pointer (some ⟨w.heap.size+1,0,none⟩),.slice none 0 0,.int .i64 (M:Nat)] 155):=⟨_,rfl⟩
 have hU13:Upd [] w1 w3:=by rw [hw3]; exact ((Upd.refl [] w1).alloc _).alloc _
 have hW3:Blk w3 w.heap.size [.int .i64 0] 27:=hW1.upd hU13 (by simp)
 have hS3:StAt w3 (w.heap.size+1+1) (w.heap.size+1) (.slice none 0 0) s 0 [] M:=by
  have hr:=zfA w1 s 194
  have hr3:=hr.upd ((Upd.refl [] _).alloc (Obj.cells #[.pointer (some ⟨w.heap.size+1,0,none⟩),.slice none 0 0,.int .i64 (M:Nat)] 155)) (by simp)
  have hb:=Blk.new (w1.alloc (Obj.cells #[.string s,.int .i64 0,.bool false] 194)) [.pointer (some ⟨w.heap.size+1,0,none⟩),.slice none 0 0,.int .i64 (M:Nat)] 155
  rw [World.size_alloc,hs1] at hb
  rw [hs1] at hr3
  rw [hw3]
  exact ⟨hb,Row.nil _ _ _,hr3,by simp [Value.ownBlock],by simp [Value.ownBlock],by omega,by simp,hM65,by simp⟩
 rw [← hw3]
 have hU3:=hU1.then hU13
 have hlt3:=hW3.lt
 clear hw3 hU13 hU1 hW1 hs1
 have HU:=Lib.hid hU3
 have hfp : ∀ k∈yO (w.heap.size+1+1) (w.heap.size+1) (.slice none 0 0),w.heap.size<k:=by intro k hk; simp [yO,Value.ownBlock] at hk; omega
 clear hU3
 obtain ⟨bw,hbw⟩ : ∃ bw,bw=w.heap.size:=⟨_,rfl⟩
 rw [← hbw] at hW3 hS3 hfp hlt3 ⊢
 have HBW:=Lib.hid hbw
 clear hbw
 go_loopg [] (8*s.size+1) (fun gg wr => ∃ g out a v,gg=g∧Hid (CP=qN s M (8*s.size+1) g out a)∧8*s.size<g+a∧SymsRel w3 wr (bw+1+1) (bw+1) (.slice none 0 0) v s a out M∧Blk wr bw [.int .i64 0] 27)
 case atStart=>exact ⟨_,[],0,_,rfl,HS,by omega,⟨hS3,.refl _ _,.refl _ _⟩,hW3⟩
 case round =>
  obtain ⟨g,out,a,v,hgg,HE,hg,hSt,hW⟩:=hrel
  have hrd:=hSt.1.rd.2
  clear HS hW3 hS3
  obtain ⟨g,rfl⟩ : ∃ g',g=g'+1:=⟨g-1,by omega⟩
  subst hgg
  have hE:CP=(kq s M (8*s.size+1) out a >>= zgv (qN s M (8*s.size+1) g)):=HE.out
  clear HE
  cases hb:kq s M (8*s.size+1) out a with
  | error c =>
    have HE:=Lib.hid (show CP = .error c by rw [hE,hb]; rfl)
    clear hE
    go_wp2_with fail
    refine (zdC hSt.1 hs (by omega) hb).mono ?_
    rintro e w4 ⟨rfl,hU4⟩
    have hne:=hSt.2.2.ne hlt3 (show (Value.slice none 0 0).ownBlock≠some bw by simp [Value.ownBlock])
    have hW4:=hW.upd hU4 (by simp only [yO,List.mem_cons,Option.mem_toList]; rintro (h | h | h)<;>first | omega | exact hne h)
    have hUw4:=of_upd HBW.out HU.out (zaM hSt.2.1 hSt.2.2 hU4) hfp
    have hx:=hW4.cell 0 rfl
    have hz:=hW4.frz 0
    have HBL:w.heap.size≤bw:=by rw [HBW.out]; exact Nat.le_refl _
    refine leaves_cons (f:=96) (args := #[.pointer (some ⟨bw,0,none⟩)]) (by simp) (by simp [go_sem]) ?_
    refine (QK ⟨bw,0,none⟩ _ (c:Nat) [] w4 hx hz).mono ?_
    rintro e u' w'' ⟨rfl,rfl,rfl⟩
    have hcell:(w4.setCell ⟨bw,0,none⟩ (.int .i64 (c:Nat))).cell? ⟨bw,0,none⟩=some (.int .i64 (c:Nat)):=(hW4.set 0 (.int .i64 (c:Nat))).cell 0 rfl
    simp [Leaves,settle,results,Tryz.results63,go_sem,hcell]
    rw [HE.out]
    exact ⟨rfl,hUw4.setCell (.inr HBL) _⟩
  | ok q =>
    obtain ⟨⟨l,o⟩,a5⟩:=q
    have hadv:=zbW hb
    have hE2:CP=if l=true then .ok (o,a5) else qN s M (8*s.size+1) g o a5:=by rw [hE,hb]; rfl
    clear hE
    cases l with
    | true =>
      have HE:=Lib.hid (show CP = .ok (o,a5) by rw [hE2]; rfl)
      clear hE2
      go_wp2_with fail
      refine (WV hSt.1 hs (by omega) hb).mono ?_
      rintro e w4 ⟨rfl,v4,hS4,hU4,hT4⟩
      have hne:=hSt.2.2.ne hlt3 (show (Value.slice none 0 0).ownBlock≠some bw by simp [Value.ownBlock])
      have hW4:=hW.upd hU4 (by simp only [yO,List.mem_cons,Option.mem_toList]; rintro (h | h | h)<;>first | omega | exact hne h)
      have hUw4:=of_upd HBW.out HU.out (zaM hSt.2.1 hSt.2.2 hU4) hfp
      have HBL:w.heap.size≤bw:=by rw [HBW.out]; exact Nat.le_refl _
      have hx:=hW4.cell 0 rfl
      have hz:=hW4.frz 0
      have hcA:=hS4.blk.all
      have hcv:=qC (P:=Tryz.prog) w4.drew 75 9 5 Tryz.underlying75 Tryz.underlying5 Tryz.underlying9 (v:=v4) (n:=o.length) (l:=o) hS4.row.drew
      have HT:=Lib.hid (Vw (bw+1) w4.drew _ s a5 false hS4.rd hs)
      go_wp2
      refine zhK ?_
      go_region_law ((go_simp; go_at_call 99; refine HT.out.mono ?_; rintro e w5 ⟨rfl,rfl⟩))
      all_goals go_wp2
      all_goals (
       have hcell:(w4.setCell ⟨bw,0,none⟩ (.int .i64 0)).cell? ⟨bw,0,none⟩=some (.int .i64 0):=(hW4.set 0 (.int .i64 0)).cell 0 rfl
       refine leaves_cons (f:=96) (args := #[.pointer (some ⟨bw,0,none⟩)]) (by simp) (by simp [go_sem]) ?_
       refine (za1 ⟨bw,0,none⟩ _).mono ?_
       rintro e u' w'' ⟨rfl,rfl,rfl⟩
       simp [Leaves,settle,results,Tryz.results63,go_sem,hcell]
       rw [HE.out]
       exact ⟨rfl,(hUw4.setCell (.inr HBL) _).drew⟩)
    | false =>
      have HE:=Lib.hid (show CP=qN s M (8*s.size+1) g o a5 by rw [hE2]; rfl)
      clear hE2
      go_wp2_with fail
      refine (WV hSt.1 hs (by omega) hb).mono ?_
      rintro e w4 ⟨rfl,v4,hS4,hU4,hT4⟩
      have hne:=hSt.2.2.ne hlt3 (show (Value.slice none 0 0).ownBlock≠some bw by simp [Value.ownBlock])
      have hW4:=hW.upd hU4 (by simp only [yO,List.mem_cons,Option.mem_toList]; rintro (h | h | h)<;>first | omega | exact hne h)
      go_wp2
      go_roundg g
      · exact ⟨g,o,a5,v4,rfl,HE,by omega,hSt.next hS4 hU4 hT4,hW4⟩
      · omega
end Go.Proofs.YtfkcdnaghndgfaaGreatDoor
namespace Go.Proofs.YtfkcdnaghndgfaaGreatDoor
def zj (c:Nat):Nat×Nat×Nat :=
 if c<128 then (1,0,0) else if 194≤c∧c≤223 then (2,128,191) else if c=224 then (3,160,191) else if c=237 then (3,128,159)
 else if 225≤c∧c≤239 then (3,128,191) else if c=240 then (4,144,191) else if 241≤c∧c≤243 then (4,128,191) else if c=244 then (4,128,143) else (0,0,0)
def qf (lo hi:Nat):Nat→List Nat→Bool
 | 0,_=>true
 | _+1,[]=>false
 | n+1,b::r=>decide (lo≤b)&&decide (b≤hi)&&qf 128 191 n r
def zcd:Nat→List Nat→Bool
 | 0,l=>l.isEmpty
 | _+1,[]=>true
 | f+1,c::r=>decide ((zj c).1≠0)&&qf (zj c).2.1 (zj c).2.2 ((zj c).1-1) r&&zcd f (r.drop ((zj c).1-1))
def jX (l:List Nat):Bool:=zcd l.length l
theorem XD (c:Nat):(zj c).1≤4:=by
 unfold zj; repeat' split
 all_goals (dsimp only; omega)
theorem QH : ∀ (f:Nat) (l:List Nat),l.length≤f→zcd f l=zcd l.length l
 | 0,l,h=>by
   have:l=[]:=List.eq_nil_of_length_eq_zero (by omega)
   subst this; rfl
 | f+1,[],_=>rfl
 | f+1,c::r,h=>by
   have hr:r.length≤f:=by rw [List.length_cons] at h; omega
   have hd:(r.drop ((zj c).1-1)).length≤r.length:=by rw [List.length_drop]; omega
   show (decide ((zj c).1≠0)&&qf (zj c).2.1 (zj c).2.2 ((zj c).1-1) r&&zcd f (r.drop ((zj c).1-1)))=(decide ((zj c).1≠0)&&qf (zj c).2.1 (zj c).2.2 ((zj c).1-1) r&&zcd r.length (r.drop ((zj c).1-1)))
   rw [QH f _ (by omega),QH r.length _ hd]
 termination_by f _ _=>f
 decreasing_by all_goals (simp_wf; try (rw [List.length_cons] at *); omega)
theorem VH (c:Nat) (r:List Nat):jX (c::r)=(decide ((zj c).1≠0)&&qf (zj c).2.1 (zj c).2.2 ((zj c).1-1) r&&jX (r.drop ((zj c).1-1))):=by
 show (decide ((zj c).1≠0)&&qf (zj c).2.1 (zj c).2.2 ((zj c).1-1) r&&zcd r.length (r.drop ((zj c).1-1)))=_
 rw [QH r.length _ (by rw [List.length_drop]; omega)]
 rfl
def yd (l:List Nat):Bool:=l.all (fun c=>!(decide (c<32)||decide (c=127)||decide (c=47)||decide (c=92)||decide (c=58)))&&decide (1≤l.length)&&decide (l.length≤60)&&decide (l≠[46])&&decide (l≠[46,46])&&jX l
end Go.Proofs.YtfkcdnaghndgfaaGreatDoor
