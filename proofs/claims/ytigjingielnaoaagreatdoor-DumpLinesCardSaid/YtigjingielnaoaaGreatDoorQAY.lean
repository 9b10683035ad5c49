/- Package inflate: one block: plain, and its walk. -/
import Derived.Laws.CopyOwn
import Derived.Test.YtigjingielnaoaaGreatDoorQAO
import Derived.Test.YtigjingielnaoaaGreatDoorQAX
import Derived.Recover
import Derived.Lib.MinMax
import Derived.Test.YtigjingielnaoaaGreatDoorQAG
import Derived.Test.YtigjingielnaoaaGreatDoorQAH
set_option linter.unusedVariables false
set_option linter.unusedSimpArgs false
set_option linter.unusedSectionVars false
namespace Go.Proofs.YtigjingielnaoaaGreatDoor
open Go.RowKit
theorem IntsIn.of_row {w:World} {g n cap:Nat} {U:List Nat} (h:Row w 3 1 (.slice (some ⟨g,0,none⟩) n cap) n (zy U)) (hb : ∀ x∈U,x≤1099511627776):IntsIn w (some ⟨g,0,none⟩) (U.map fun x:Nat=>(x:Int)).length (U.map fun x:Nat=>(x:Int)) :=
 ⟨rfl,fun i hi=>by
  have hi':i<U.length:=by simpa using hi
  refine ⟨g,0,rfl,?_,?_⟩
  · rw [Nat.zero_add,Row.cell h i (zZ _ _ _ (List.getElem?_eq_getElem hi'))]; simp
  · have:=hb _ (List.getElem_mem hi')
    simp only [List.getElem_map]; omega⟩
theorem yo {α β:Type} {x:Except Nat α} {f:α→Except Nat β} {y:β} (h:x >>= f = .ok y) : ∃ r,x = .ok r∧f r = .ok y:=by
 cases x with
 | error c=>cases h
 | ok r=>exact ⟨r,rfl,h⟩
theorem Yk {α β:Type} {x:Except Nat α} {f:α→β} {y:β} (h:x.map f = .ok y) : ∃ r,x = .ok r∧f r=y:=by
 cases x with
 | error c=>cases h
 | ok r=>cases h; exact ⟨r,rfl,rfl⟩
def vV:List Int:=ints (ko 4)
def Je:List Int:=ints (List.replicate 32 5)
def Yz (s:ByteArray) (most F:Nat) (out:List Nat) (r:(List Nat×List Nat)×Nat):Except Nat (List Nat×Nat):=yU (ints r.1.1) (ints r.1.2) s most F out r.2
def qb (s:ByteArray) (most F:Nat) (out:List Nat) (r:Nat×Nat):Except Nat (List Nat×Nat) :=
 if r.1=0 then qH s most out r.2 else
  if r.1=1 then yU vV Je s most F out r.2 else
   if r.1=2 then yV s r.2 >>= Yz s most F out else .error 2
def vf (k:Nat) (q:List Nat×Nat):Except Nat ((Bool×List Nat)×Nat) := .ok ((k==1,q.1),q.2)
def jz (s:ByteArray) (most F:Nat) (out:List Nat) (a:Nat):Except Nat ((Bool×List Nat)×Nat) :=
 zq s a 1 >>= fun r=>(zq s r.2 2 >>= qb s most F out) >>= vf r.1
theorem zdS (a:Nat):a≤xv a false:=by unfold xv; simp; omega
theorem WI {s:ByteArray} {most:Nat} {out out':List Nat} {a a':Nat} (h:qH s most out a = .ok (out',a')):a≤a':=by
 obtain ⟨r,h1,h2⟩:=yo h
 obtain ⟨r2,h3,h4⟩:=yo h2
 have e1:=yG h1
 have e2:=yG h3
 have e0:=zdS a
 unfold xu at h4
 split at h4
 · split at h4
   · cases h4
   · rename_i hb
     split at h4
     · cases h4
       unfold qL
       rw [if_neg hb]
       omega
     · cases h4
 · cases h4
theorem Xq {l1 l2:List Int} {s:ByteArray} {most:Nat} : ∀ (g:Nat) {out out':List Nat} {a a':Nat},yU l1 l2 s most g out a = .ok (out',a')→a≤a':=by
 intro g
 induction g with
 | zero=>intro out out' a a' h; cases h
 | succ g ih =>
   intro out out' a a' h
   obtain ⟨⟨sym,a1⟩,h1,h2⟩:=yo h
   have e1:=qS h1
   unfold qd at h2
   simp only at h2
   split at h2
   · cases h2; omega
   · split at h2
     · split at h2
       · have:=ih h2; omega
       · cases h2
     · obtain ⟨⟨o,a2⟩,h3,h4⟩:=yo h2
       have e2:=XA h3
       have:=ih h4
       simp only at this
       omega
theorem KV {s:ByteArray} {sym:Nat} {L:List Nat} {a a':Nat} {r:Nat×Nat} (h:xf s sym L a = .ok (r,a')):a≤a':=by
 unfold xf at h
 split at h
 · split at h
   · cases h
   · obtain ⟨q,h1,h2⟩:=Yk h; have:=yG h1; cases h2; exact this
 · split at h
   · obtain ⟨q,h1,h2⟩:=Yk h; have:=yG h1; cases h2; exact this
   · obtain ⟨q,h1,h2⟩:=Yk h; have:=yG h1; cases h2; exact this
theorem zb0 {s:ByteArray} {k:Nat} {L:List Nat} {a a':Nat} {r:Nat×Nat} (h:xI s k L a = .ok (r,a')):a≤a':=by
 unfold xI at h
 split at h
 · exact KV h
 · cases h; omega
theorem zcn {l:List Int} {s:ByteArray} {many:Nat} : ∀ (f:Nat) {L L':List Nat} {a a':Nat},xU l s many f L a = .ok (L',a')→a≤a':=by
 intro f
 induction f with
 | zero=>intro L L' a a' h; cases h; omega
 | succ f ih =>
   intro L L' a a' h
   simp only [xU] at h
   split at h
   · split at h
     · cases h
     · rename_i r hr
       have e1:=qS (x:=r.1) (a':=r.2) hr
       split at h
       · cases h
       · rename_i q hq
         have e2:=zb0 (r:=q.1) (a':=q.2) hq
         split at h
         · have:=ih h; omega
         · cases h
   · cases h; omega
theorem KF {s:ByteArray} : ∀ (m:Nat) {i:Nat} {L L':List Nat} {a a':Nat},xk s m i L a = .ok (L',a')→a≤a':=by
 intro m
 induction m with
 | zero=>intro i L L' a a' h; cases h; omega
 | succ m ih =>
   intro i L L' a a' h
   simp only [xk] at h
   split at h
   · cases h
   · rename_i r hr
     have e1:=yG (v:=r.1) (a':=r.2) hr
     have:=ih h
     omega
theorem jl {s:ByteArray} {a a':Nat} {A B:List Nat} (h:yV s a = .ok ((A,B),a')):a≤a'∧A.length≤286∧B.length≤30 ∧ ∀ x∈A++B,x≤15:=by
 obtain ⟨⟨n,a1⟩,h1,h⟩:=yo h
 obtain ⟨⟨m,a2⟩,h2,h⟩:=yo h
 obtain ⟨⟨k,a3⟩,h3,h⟩:=yo h
 have e1:=yG h1
 have e2:=yG h2
 have e3:=yG h3
 simp only at e2 e3 h
 unfold xr at h
 split at h
 · rename_i hnm
   obtain ⟨⟨L,a4⟩,h4,h⟩:=yo h
   have e4:=KF _ h4
   unfold qc at h
   split at h
   · obtain ⟨⟨L',a5⟩,h5,h⟩:=yo h
     have e5:=zcn _ h5
     obtain ⟨hl,h15⟩:=WM _ _ _ _ _ (by simp) (by simp) (by simp) h5
     unfold jx at h
     split at h
     · split at h
       · cases h
         dsimp only at *
         refine ⟨by omega,by rw [List.length_take]; omega,by rw [List.length_drop]; omega,?_⟩
         rw [List.take_append_drop]; exact h15
       · cases h
     · cases h
   · cases h
 · cases h
theorem Xv {s:ByteArray} {most F k:Nat} {out out':List Nat} {a a':Nat} (h:qb s most F out (k,a) = .ok (out',a')):a≤a':=by
 unfold qb at h
 split at h
 · exact WI h
 · split at h
   · exact Xq _ h
   · split at h
     · obtain ⟨⟨⟨A,B⟩,a1⟩,h1,h2⟩:=yo h
       have:=(jl h1).1
       have:=Xq _ (show yU (ints A) (ints B) s most F out a1 = .ok (out',a') from h2)
       simp only at *
       omega
     · cases h
theorem vN {s:ByteArray} {a n v a':Nat} (h:zq s a n = .ok (v,a')):a'=a+n:=by
 unfold zq at h
 split at h
 · cases h; rfl
 · cases h
theorem Wv {s:ByteArray} {most F:Nat} {out out':List Nat} {a a':Nat} {l:Bool} (h:jz s most F out a = .ok ((l,out'),a')):a<a':=by
 obtain ⟨⟨v,a1⟩,h1,h⟩:=yo h
 obtain ⟨⟨o,a3⟩,h2,h3⟩:=yo h
 obtain ⟨⟨k,a2⟩,h4,h5⟩:=yo h2
 have e1:=vN h1
 have e2:=vN h4
 have e3:=Xv h5
 unfold vf at h3
 cases h3
 simp only at e2 e3 ⊢
 omega
def zbS (w:World) (x b:Nat) (v:Value) (s:ByteArray) (most:Nat) (r:Except Nat ((Bool×List Nat)×Nat)) (e:Ending) (w':World):Prop :=
 match r with
 | .ok ((l,out),a')=>e = .returned (.bool l) ∧ ∃ v',StAt w' x b v' s a' out most∧Upd (yR x b v) w w'∧Later w v v'
 | .error c=>e = .panicked [{ v := .iface 39 (.int .i64 (c:Nat)),recovered:=false }]∧Upd (yR x b v) w w'
theorem qa:vV.length=288∧Je.length=32:=by
 have hL4:(ko 4).length=288:=by
  unfold ko xQ
  simp only [List.take_succ_cons,List.take_nil,List.flatMap_cons,List.flatMap_nil,List.length_append,List.length_replicate,List.length_nil]
 exact ⟨by unfold vV; rw [zp,hL4],by unfold Je; rw [zp]; simp⟩
theorem WL (x:Nat) (h:x∈ko 4):x≤9:=by
 unfold ko xQ at h
 simp only [List.take_succ_cons,List.take_nil,List.flatMap_cons,List.flatMap_nil,List.mem_append,List.mem_replicate,List.not_mem_nil,or_false] at h
 omega
theorem zb1 (w:World):Calls Tryz.prog 235 #[] w fun e w' => ∃ a1 c1 a2,e = .returned (.tuple #[.slice a1 288 c1,.slice a2 32 32])∧IntsIn w' a1 288 vV∧IntsIn w' a2 32 Je∧Upd [] w w':=by
 refine (za3 w).mono ?_
 rintro e w' ⟨g1,c1,g2,rfl,hR1,hR2,hU,_,_⟩
 refine ⟨_,c1,_,rfl,?_,?_,hU⟩
 · have h:=IntsIn.of_row hR1 (fun x hx=>Nat.le_trans (WL x hx) (by omega))
   have e:=qa.1
   unfold vV ints at e ⊢
   rw [e] at h
   exact h
 · have h:=IntsIn.of_row hR2 (fun x hx=>by rw [(List.mem_replicate.1 hx).2]; omega)
   have e:=qa.2
   unfold Je ints at e ⊢
   rw [e] at h
   exact h
theorem VQ {w0 w w':World} {x b:Nat} {v0 v:Value} (h1:Upd (yR x b v0) w0 w) (h2:Later w0 v0 v) (hU:Upd (yR x b v) w w'):Upd (yR x b v0) w0 w' :=
 h1.trans hU (fun k hk=>by
  simp only [yR,List.mem_cons] at hk ⊢
  rcases hk with hk | hk | hk
  · exact .inl (.inl hk)
  · exact .inl (.inr (.inl hk))
  · exact (h2.fp k hk).imp (fun h => .inr (.inr h)) id)
theorem zba {b:Nat} {w:World} {s:ByteArray} {a a':Nat} {A B:List Nat} (hR:RdAt w b 268 s a false) (hs:s.size≤1099511627776) (h:yV s a = .ok ((A,B),a')) :
 Calls Tryz.prog 237 #[.agg #[.pointer (some ⟨b,0,none⟩)]] w fun e w' => ∃ g cap,e = .returned (.tuple #[.slice (some ⟨g,0,none⟩) A.length cap,.slice (some ⟨g,A.length,none⟩) B.length (cap-A.length)]) ∧
  IntsIn w' (some ⟨g,0,none⟩) A.length (ints A)∧IntsIn w' (some ⟨g,A.length,none⟩) B.length (ints B)∧RdAt w' b 268 s a' false∧Upd [b] w w'∧w.heap.size≤g:=by
 have h1:=QA b w s a hR hs
 rw [h] at h1
 refine h1.mono ?_
 rintro e w' ⟨g,n,cap,rfl,rfl,hRow,hR',hU,hg⟩
 have h15 : ∀ x∈A++B,x≤1099511627776:=fun x hx=>Nat.le_trans ((jl h).2.2.2 x hx) (by omega)
 refine ⟨g,cap,rfl,?_,?_,hR',hU,hg⟩
 · have:=IntsIn.part hRow h15 0 A.length (by simp)
   rw [List.drop_zero,List.take_left' rfl,zp] at this
   exact this
 · have:=IntsIn.part hRow h15 A.length B.length (by simp)
   rw [List.drop_left' rfl,List.take_of_length_le (Nat.le_refl _),zp] at this
   exact this
theorem WA {b:Nat} {w:World} {s:ByteArray} {a c:Nat} (hR:RdAt w b 268 s a false) (hs:s.size≤1099511627776) (h:yV s a = .error c) :
 Calls Tryz.prog 237 #[.agg #[.pointer (some ⟨b,0,none⟩)]] w fun e w'=>e = .panicked [{ v := .iface 39 (.int .i64 (c:Nat)),recovered:=false }]∧Upd [b] w w':=by
 have h1:=QA b w s a hR hs
 rwa [h] at h1
theorem zcH {x b:Nat} {v:Value} {w:World} {s:ByteArray} {a:Nat} {out:List Nat} {most:Nat} {out':List Nat} {a':Nat} (h:StAt w x b v s a out most) (hs:s.size≤1099511627776) (hc:qH s most out a = .ok (out',a')) :
 Calls Tryz.prog 234 #[.pointer (some ⟨x,0,none⟩)] w fun e w'=>e = .returned (.tuple #[]) ∧ ∃ v',StAt w' x b v' s a' out' most∧Upd (yR x b v) w w'∧Later w v v':=by
 have:=Xd x b v w s a out most h hs
 rwa [hc] at this
theorem zbI {x b:Nat} {v:Value} {w:World} {s:ByteArray} {a:Nat} {out:List Nat} {most c:Nat} (h:StAt w x b v s a out most) (hs:s.size≤1099511627776) (hc:qH s most out a = .error c) :
 Calls Tryz.prog 234 #[.pointer (some ⟨x,0,none⟩)] w fun e w'=>e = .panicked [{ v := .iface 39 (.int .i64 (c:Nat)),recovered:=false }]∧Upd (yR x b v) w w':=by
 have:=Xd x b v w s a out most h hs
 rwa [hc] at this
theorem QJ {x b F:Nat} {a1 a2:Option Addr} {n1 c1 n2 c2:Nat} {v:Value} {l1 l2:List Int} {w:World} {s:ByteArray} {a:Nat} {out:List Nat} {most:Nat} {out':List Nat} {a':Nat} (h:StAt w x b v s a out most) (hs:s.size≤1099511627776)
 (hI1:IntsIn w a1 n1 l1) (hI2:IntsIn w a2 n2 l2) (hl1:l1.length≤300) (hl2:l2.length≤300) (hF:8*s.size<F+a) (hc:yU l1 l2 s most F out a = .ok (out',a')) :
 Calls Tryz.prog 236 #[.pointer (some ⟨x,0,none⟩),.slice a1 n1 c1,.slice a2 n2 c2] w fun e w'=>e = .returned (.tuple #[]) ∧ ∃ v',StAt w' x b v' s a' out' most∧Upd (yR x b v) w w'∧Later w v v':=by
 have:=JH x b F a1 a2 n1 c1 n2 c2 v l1 l2 w s a out most h hs hI1 hI2 hl1 hl2 hF
 rwa [hc] at this
theorem JG {x b F:Nat} {a1 a2:Option Addr} {n1 c1 n2 c2:Nat} {v:Value} {l1 l2:List Int} {w:World} {s:ByteArray} {a:Nat} {out:List Nat} {most c:Nat} (h:StAt w x b v s a out most) (hs:s.size≤1099511627776)
 (hI1:IntsIn w a1 n1 l1) (hI2:IntsIn w a2 n2 l2) (hl1:l1.length≤300) (hl2:l2.length≤300) (hF:8*s.size<F+a) (hc:yU l1 l2 s most F out a = .error c) :
 Calls Tryz.prog 236 #[.pointer (some ⟨x,0,none⟩),.slice a1 n1 c1,.slice a2 n2 c2] w fun e w'=>e = .panicked [{ v := .iface 39 (.int .i64 (c:Nat)),recovered:=false }]∧Upd (yR x b v) w w':=by
 have:=JH x b F a1 a2 n1 c1 n2 c2 v l1 l2 w s a out most h hs hI1 hI2 hl1 hl2 hF
 rwa [hc] at this
set_option maxRecDepth 100000 in
set_option maxHeartbeats 6400000 in
theorem XD (x b F:Nat) (v:Value) (w:World) (s:ByteArray) (a:Nat) (out:List Nat) (most:Nat) (h:StAt w x b v s a out most) (hs:s.size≤1099511627776) (hF:8*s.size<F) :
 Calls Tryz.prog 225 #[.pointer (some ⟨x,0,none⟩)] w (zbS w x b v s most (jz s most F out a)):=by
 have HS:=Lib.hid (show jz s most F out a=(zq s a 1 >>= fun r=>(zq s r.2 2 >>= qb s most F out) >>= vf r.1) by rfl)
 generalize jz s most F out a=CP at *
 have c0:=h.blk.cell 0 rfl
 go_enter Tryz.func225,Tryz.ntmps225
 rcases zB s a 1 with ⟨l,hl,hla,htk⟩ | htk
 · have HE:=Lib.hid (show CP=((zq s (a+1) 2 >>= qb s most F out) >>= vf l) by rw [HS.out,htk]; rfl)
   clear HS
   go_wp2_with fail
   refine (yS h.rd hs (by omega) htk).mono ?_
   rintro e w1 ⟨rfl,hR1,hU1⟩
   have h1:=h.read hU1 hR1
   have hUw1:=ym (v:=v) (x:=x) hU1
   have c1:=h1.blk.cell 0 rfl
   obtain ⟨bl,hbl⟩ : ∃ bl,bl=(l==1):=⟨_,rfl⟩
   have hb1:((l:Int)==1)=bl:=by rw [hbl]; rcases l with _ | _ | l<;>first | rfl | omega
   have HBL:=Lib.hid hbl
   clear hbl hR1 hU1 htk c0
   rcases zB s (a+1) 2 with ⟨k,hk,hka,htk⟩ | htk
   · have hE:CP=(qb s most F out (k,a+1+2) >>= vf l):=by rw [HE.out,htk]; rfl
     have HE:=Lib.hid hE
     clear hE
     have hF1:8*s.size<F+(a+1+2):=by omega
     have hT0:=Later.refl w v
     rcases k with _ | _ | _ | k
     · go_wp2_with fail
       refine (yS h1.rd hs (by omega) htk).mono ?_
       rintro e w2 ⟨rfl,hR2,hU2⟩
       have h2:=h1.read hU2 hR2
       have hUw2:=hUw1.then (ym (v:=v) (x:=x) hU2)
       have hE:CP=(qH s most out (a+1+2) >>= vf l):=HE.out
       cases hst:qH s most out (a+1+2) with
       | error c =>
         have HE:=Lib.hid (show CP = .error c by rw [hE,hst]; rfl)
         clear hE
         go_wp2_with fail
         refine (zbI h2 hs hst).mono ?_
         rintro e w3 ⟨rfl,hU3⟩
         go_wp2
         rw [HE.out]
         exact ⟨rfl,rfl,hUw2.then hU3⟩
       | ok q =>
         obtain ⟨o,a5⟩:=q
         have HE:=Lib.hid (show CP = .ok ((bl,o),a5) by rw [hE,hst,HBL.out]; rfl)
         clear hE
         go_wp2_with fail
         refine (zcH h2 hs hst).mono ?_
         rintro e w3 ⟨rfl,v3,hS3,hU3,hT3⟩
         go_wp2
         go_returns
         rw [HE.out]
         exact ⟨rfl,v3,hS3,hUw2.then hU3,hT0.trans hUw2.size hT3⟩
     · go_wp2_with fail
       refine (yS h1.rd hs (by omega) htk).mono ?_
       rintro e w2 ⟨rfl,hR2,hU2⟩
       have h2:=h1.read hU2 hR2
       have hUw2:=hUw1.then (ym (v:=v) (x:=x) hU2)
       have hE:CP=(yU vV Je s most F out (a+1+2) >>= vf l):=HE.out
       go_wp2_with fail
       refine (zb1 w2).mono ?_
       rintro e w3 ⟨p1,c1',p2,rfl,hI1,hI2,hU3⟩
       have h3:=h2.pure hU3
       have hUw3:=hUw2.then (jX (v:=v) (x:=x) (b:=b) hU3)
       have hfl:=qa
       cases hst:yU vV Je s most F out (a+1+2) with
       | error c =>
         have HE:=Lib.hid (show CP = .error c by rw [hE,hst]; rfl)
         clear hE
         go_wp2_with fail
         refine (JG h3 hs hI1 hI2 (by omega) (by omega) hF1 hst).mono ?_
         rintro e w4 ⟨rfl,hU4⟩
         go_wp2
         rw [HE.out]
         exact ⟨rfl,rfl,hUw3.then hU4⟩
       | ok q =>
         obtain ⟨o,a5⟩:=q
         have HE:=Lib.hid (show CP = .ok ((bl,o),a5) by rw [hE,hst,HBL.out]; rfl)
         clear hE
         go_wp2_with fail
         refine (QJ h3 hs hI1 hI2 (by omega) (by omega) hF1 hst).mono ?_
         rintro e w4 ⟨rfl,v4,hS4,hU4,hT4⟩
         go_wp2
         go_returns
         rw [HE.out]
         exact ⟨rfl,v4,hS4,hUw3.then hU4,hT0.trans hUw3.size hT4⟩
     · go_wp2_with fail
       refine (yS h1.rd hs (by omega) htk).mono ?_
       rintro e w2 ⟨rfl,hR2,hU2⟩
       have h2:=h1.read hU2 hR2
       have c2:=h2.blk.cell 0 rfl
       have hUw2:=hUw1.then (ym (v:=v) (x:=x) hU2)
       have hE:CP=((yV s (a+1+2) >>= Yz s most F out) >>= vf l):=HE.out
       cases htb:yV s (a+1+2) with
       | error c =>
         have HE:=Lib.hid (show CP = .error c by rw [hE,htb]; rfl)
         clear hE
         go_wp2_with fail
         refine (WA h2.rd hs htb).mono ?_
         rintro e w3 ⟨rfl,hU3⟩
         go_wp2
         rw [HE.out]
         exact ⟨rfl,rfl,hUw2.then (ym hU3)⟩
       | ok q =>
         obtain ⟨⟨A,B⟩,a4⟩:=q
         have hE2:CP=(yU (ints A) (ints B) s most F out a4 >>= vf l):=by rw [hE,htb]; rfl
         obtain ⟨hadv,hAl,hBl,_⟩:=jl htb
         have HE:=Lib.hid hE2
         clear hE hE2
         go_wp2_with fail
         refine (zba h2.rd hs htb).mono ?_
         rintro e w3 ⟨g,cap,rfl,hI1,hI2,hR3,hU3,hg⟩
         have h3:=h2.read hU3 hR3
         have hUw3:=hUw2.then (ym (v:=v) (x:=x) hU3)
         have hl1:=zp A
         have hl2:=zp B
         cases hst:yU (ints A) (ints B) s most F out a4 with
         | error c =>
           have HE:=Lib.hid (show CP = .error c by rw [HE.out,hst]; rfl)
           go_wp2_with fail
           refine (JG h3 hs hI1 hI2 (by omega) (by omega) (by omega) hst).mono ?_
           rintro e w4 ⟨rfl,hU4⟩
           go_wp2
           rw [HE.out]
           exact ⟨rfl,rfl,hUw3.then hU4⟩
         | ok q =>
           obtain ⟨o,a5⟩:=q
           have HE:=Lib.hid (show CP = .ok ((bl,o),a5) by rw [HE.out,hst,HBL.out]; rfl)
           go_wp2_with fail
           refine (QJ h3 hs hI1 hI2 (by omega) (by omega) (by omega) hst).mono ?_
           rintro e w4 ⟨rfl,v4,hS4,hU4,hT4⟩
           go_wp2
           go_returns
           rw [HE.out]
           exact ⟨rfl,v4,hS4,hUw3.then hU4,hT0.trans hUw3.size hT4⟩
     · have HE:=Lib.hid (show CP = .error 2 by rw [HE.out]; rfl)
       have hk0:k=0:=by omega
       subst hk0
       go_wp2_with fail
       refine (yS h1.rd hs (by omega) htk).mono ?_
       rintro e w2 ⟨rfl,hR2,hU2⟩
       go_wp2_with fail
       refine (yP _).mono ?_
       rintro e w3 ⟨rfl,rfl⟩
       go_wp2
       rw [HE.out]
       exact ⟨rfl,rfl,hUw1.then (ym hU2)⟩
   · have HE:=Lib.hid (show CP = .error 3 by rw [HE.out,htk]; rfl)
     go_wp2_with fail
     refine (xe h1.rd hs (by omega) htk).mono ?_
     rintro e w2 ⟨rfl,hU2⟩
     go_wp2
     rw [HE.out]
     exact ⟨rfl,rfl,hUw1.then (ym hU2)⟩
 · have HE:=Lib.hid (show CP = .error 3 by rw [HS.out,htk]; rfl)
   go_wp2_with fail
   refine (xe h.rd hs (by omega) htk).mono ?_
   rintro e w1 ⟨rfl,hU1⟩
   go_wp2
   rw [HE.out]
   exact ⟨rfl,rfl,ym hU1⟩
end Go.Proofs.YtigjingielnaoaaGreatDoor
namespace Go.Proofs.YtigjingielnaoaaGreatDoor
open Go.RowKit
theorem Yi (v:Value) (xT:TypeId) (w:World):(Instr.typeAssert (.iface 39 v) xT 39 true).run Tryz.prog w = .ok (.tuple #[v,.bool true]) w:=by
 simp [Instr.typeAssert,run_underlying Tryz.underlying39,go_sem,Result.andThen]
set_option maxRecDepth 100000 in
set_option maxHeartbeats 1600000 in
theorem Jp (p:Addr) (x:Value) (c:Int) (older:List PanicEntry) (w:World) (hx:w.cell? p=some x) (hz:w.frozen? p=false) :
 CallsD Tryz.prog 223 #[.pointer (some p)] (.panicking ({ v := .iface 39 (.int .i64 c),recovered:=false }::older)) w fun e u' w' =>
  e = .returned (.tuple #[])∧u' = .panicking ({ v := .iface 39 (.int .i64 c),recovered:=true }::older)∧w'=w.setCell p (.int .i64 c):=by
 have hta:=Yi (.int .i64 c) 20
 refine callsD_of_wpS Tryz.func223 rfl fun c₀ cs hu=>?_
 apply wpS_seq
 apply wpS_region
 simp [wpOpsS,go_sem,recoverD,hu,Tryz.ntmps223,Exit.thenS]
 refine wpS_of_wp ?_
 go_wp2
 simp [bodyPostS,results,Tryz.results223]
set_option maxRecDepth 100000 in
set_option maxHeartbeats 1600000 in
theorem YY (p:Addr) (w:World) :
 CallsD Tryz.prog 223 #[.pointer (some p)] .returning w fun e u' w'=>e = .returned (.tuple #[])∧u' = .returning∧w'=w:=by
 refine callsD_of_wpS Tryz.func223 rfl fun c₀ cs hu=>?_
 apply wpS_seq
 apply wpS_region
 simp [wpOpsS,go_sem,recoverD,hu,Tryz.ntmps223,Exit.thenS]
 refine wpS_of_wp ?_
 go_wp2
 cases c₀
 simp_all [bodyPostS,results,Tryz.results223]
end Go.Proofs.YtigjingielnaoaaGreatDoor
namespace Go.Proofs.YtigjingielnaoaaGreatDoor
open Go.RowKit
def zb4 (k:List Nat→Nat→Except Nat (List Nat×Nat)) (r:(Bool×List Nat)×Nat):Except Nat (List Nat×Nat):=if r.1.1=true then .ok (r.1.2,r.2) else k r.1.2 r.2
def qu (s:ByteArray) (most F:Nat):Nat→List Nat→Nat→Except Nat (List Nat×Nat)
 | 0,_,_ => .error 0
 | g+1,out,a=>jz s most F out a >>= zb4 (qu s most F g)
def Ya (most:Int):Nat:=(max 0 (min most 65000)).toNat
def ofP (s:ByteArray) (most:Int):Except Nat (List Nat×Nat):=qu s (Ya most) (8*s.size+1) (8*s.size+1) [] 0
def zaq:Except Nat (List Nat×Nat)→Value
 | .ok (out,a) => .tuple #[.string (zf out),.int .i64 ((a+7)/8:Nat),.int .i64 0]
 | .error c => .tuple #[.string ⟨#[]⟩,.int .i64 0,.int .i64 (c:Nat)]
theorem of_upd {w w3 w':World} {bw x b:Nat} {v0:Value} (hbw:bw=w.heap.size) (h0:Upd [] w w3) (h:Upd (yR x b v0) w3 w') (hfp : ∀ k∈yR x b v0,bw<k):Upd [] w w' :=
 h0.trans h fun k hk => .inr (by have:=hfp k hk; omega)
theorem zei {P:Program} {c:Code} {K:Act→World→Prop} {Q:Exit→Act→World→Prop} {a:Act} {w:World} (h:c.wp P (Exit.then K fun _ _ _=>False) a w):c.wp P (Exit.then K Q) a w :=
 Code.wp_mono (fun e a w h=>by cases e<;>first | exact h | exact h.elim) h
theorem Vb {x b F:Nat} {v:Value} {w:World} {s:ByteArray} {a:Nat} {out:List Nat} {most:Nat} {l:Bool} {out':List Nat} {a':Nat} (h:StAt w x b v s a out most) (hs:s.size≤1099511627776) (hF:8*s.size<F) (hc:jz s most F out a = .ok ((l,out'),a')) :
 Calls Tryz.prog 225 #[.pointer (some ⟨x,0,none⟩)] w fun e w'=>e = .returned (.bool l) ∧ ∃ v',StAt w' x b v' s a' out' most∧Upd (yR x b v) w w'∧Later w v v':=by
 have:=XD x b F v w s a out most h hs hF
 rwa [hc] at this
theorem zbs {x b F:Nat} {v:Value} {w:World} {s:ByteArray} {a:Nat} {out:List Nat} {most c:Nat} (h:StAt w x b v s a out most) (hs:s.size≤1099511627776) (hF:8*s.size<F) (hc:jz s most F out a = .error c) :
 Calls Tryz.prog 225 #[.pointer (some ⟨x,0,none⟩)] w fun e w'=>e = .panicked [{ v := .iface 39 (.int .i64 (c:Nat)),recovered:=false }]∧Upd (yR x b v) w w':=by
 have:=XD x b F v w s a out most h hs hF
 rwa [hc] at this
set_option maxRecDepth 100000 in
set_option maxHeartbeats 6400000 in
theorem zdV (s:ByteArray) (most:Int) (w:World) (hs:s.size≤1099511627776) :
 Calls Tryz.prog 201 #[.string s,.int .i64 most] w fun e w'=>e = .returned (zaq (ofP s most))∧Upd [] w w':=by
 have HS:=Lib.hid (show ofP s most=qu s (Ya most) (8*s.size+1) (8*s.size+1) [] 0 by rfl)
 generalize ofP s most=CP at *
 obtain ⟨M,hM⟩ : ∃ M,M=Ya most:=⟨_,rfl⟩
 have hM65:M≤65000:=by rw [hM]; unfold Ya; omega
 have hMc:max 0 (min most 65000)=(M:Int):=by rw [hM]; unfold Ya; omega
 rw [← hM] at HS
 clear hM
 go_enter_defers Tryz.func201,Tryz.ntmps201
 go_wp2_with fail
 have hU1:Upd [] w (w.alloc (Obj.cells #[.int .i64 0] 39)):=(Upd.refl [] w).alloc _
 have hW1:=Blk.new w [.int .i64 0] 39
 have hs1:(w.alloc (Obj.cells #[.int .i64 0] 39)).heap.size=w.heap.size+1:=World.size_alloc _ _
 generalize w.alloc (Obj.cells #[.int .i64 0] 39)=w1 at *
 refine (zcB s w1).mono ?_
 rintro e w2 ⟨rfl,rfl⟩
 go_wp2
 obtain ⟨w3,hw3⟩ : ∃ w3,w3=(w1.alloc (Obj.cells #[.string s,.int .i64 0,.bool false] 268)).alloc (Obj.cells #[.pointer (some ⟨w.heap.size+1,0,none⟩),.slice none 0 0,.int .i64 (M:Nat)] 257):=⟨_,rfl⟩
 have hU13:Upd [] w1 w3:=by rw [hw3]; exact ((Upd.refl [] w1).alloc _).alloc _
 have hW3:Blk w3 w.heap.size [.int .i64 0] 39:=hW1.upd hU13 (by simp)
 have hS3:StAt w3 (w.heap.size+1+1) (w.heap.size+1) (.slice none 0 0) s 0 [] M:=by
  have hr:=zcY w1 s 268
  have hr3:=hr.upd ((Upd.refl [] _).alloc (Obj.cells #[.pointer (some ⟨w.heap.size+1,0,none⟩),.slice none 0 0,.int .i64 (M:Nat)] 257)) (by simp)
  have hb:=Blk.new (w1.alloc (Obj.cells #[.string s,.int .i64 0,.bool false] 268)) [.pointer (some ⟨w.heap.size+1,0,none⟩),.slice none 0 0,.int .i64 (M:Nat)] 257
  rw [World.size_alloc,hs1] at hb
  rw [hs1] at hr3
  rw [hw3]
  exact ⟨hb,Row.nil _ _ _,hr3,by simp [Value.ownBlock],by simp [Value.ownBlock],by omega,by simp,hM65,by simp⟩
 rw [← hw3]
 have hU3:=hU1.then hU13
 have hlt3:=hW3.lt
 clear hw3 hU13 hU1 hW1 hs1
 have HU:=Lib.hid hU3
 have hfp : ∀ k∈yR (w.heap.size+1+1) (w.heap.size+1) (.slice none 0 0),w.heap.size<k:=by intro k hk; simp [yR,Value.ownBlock] at hk; omega
 clear hU3
 obtain ⟨bw,hbw⟩ : ∃ bw,bw=w.heap.size:=⟨_,rfl⟩
 rw [← hbw] at hW3 hS3 hfp hlt3 ⊢
 have HBW:=Lib.hid hbw
 clear hbw
 go_loopg [] (8*s.size+1) (fun gg wr => ∃ g out a v,gg=g∧Hid (CP=qu s M (8*s.size+1) g out a)∧8*s.size<g+a∧SymsRel w3 wr (bw+1+1) (bw+1) (.slice none 0 0) v s a out M∧Blk wr bw [.int .i64 0] 39)
 case atStart=>exact ⟨_,[],0,_,rfl,HS,by omega,⟨hS3,.refl _ _,.refl _ _⟩,hW3⟩
 case round =>
  obtain ⟨g,out,a,v,hgg,HE,hg,hSt,hW⟩:=hrel
  have hrd:=hSt.1.rd.2
  clear HS hW3 hS3
  obtain ⟨g,rfl⟩ : ∃ g',g=g'+1:=⟨g-1,by omega⟩
  subst hgg
  have hE:CP=(jz s M (8*s.size+1) out a >>= zb4 (qu s M (8*s.size+1) g)):=HE.out
  clear HE
  cases hb:jz s M (8*s.size+1) out a with
  | error c =>
    have HE:=Lib.hid (show CP = .error c by rw [hE,hb]; rfl)
    clear hE
    go_wp2_with fail
    refine (zbs hSt.1 hs (by omega) hb).mono ?_
    rintro e w4 ⟨rfl,hU4⟩
    have hne:=hSt.2.2.ne hlt3 (show (Value.slice none 0 0).ownBlock≠some bw by simp [Value.ownBlock])
    have hW4:=hW.upd hU4 (by simp only [yR,List.mem_cons,Option.mem_toList]; rintro (h | h | h)<;>first | omega | exact hne h)
    have hUw4:=of_upd HBW.out HU.out (VQ hSt.2.1 hSt.2.2 hU4) hfp
    have hx:=hW4.cell 0 rfl
    have hz:=hW4.frz 0
    have HBL:w.heap.size≤bw:=by rw [HBW.out]; exact Nat.le_refl _
    refine leaves_cons (f:=223) (args := #[.pointer (some ⟨bw,0,none⟩)]) (by simp) (by simp [go_sem]) ?_
    refine (Jp ⟨bw,0,none⟩ _ (c:Nat) [] w4 hx hz).mono ?_
    rintro e u' w'' ⟨rfl,rfl,rfl⟩
    have hcell:(w4.setCell ⟨bw,0,none⟩ (.int .i64 (c:Nat))).cell? ⟨bw,0,none⟩=some (.int .i64 (c:Nat)):=(hW4.set 0 (.int .i64 (c:Nat))).cell 0 rfl
    simp [Leaves,settle,results,Tryz.results201,go_sem,hcell]
    rw [HE.out]
    exact ⟨rfl,hUw4.setCell (.inr HBL) _⟩
  | ok q =>
    obtain ⟨⟨l,o⟩,a5⟩:=q
    have hadv:=Wv hb
    have hE2:CP=if l=true then .ok (o,a5) else qu s M (8*s.size+1) g o a5:=by rw [hE,hb]; rfl
    clear hE
    cases l with
    | true =>
      have HE:=Lib.hid (show CP = .ok (o,a5) by rw [hE2]; rfl)
      clear hE2
      go_wp2_with fail
      refine (Vb hSt.1 hs (by omega) hb).mono ?_
      rintro e w4 ⟨rfl,v4,hS4,hU4,hT4⟩
      have hne:=hSt.2.2.ne hlt3 (show (Value.slice none 0 0).ownBlock≠some bw by simp [Value.ownBlock])
      have hW4:=hW.upd hU4 (by simp only [yR,List.mem_cons,Option.mem_toList]; rintro (h | h | h)<;>first | omega | exact hne h)
      have hUw4:=of_upd HBW.out HU.out (VQ hSt.2.1 hSt.2.2 hU4) hfp
      have HBL:w.heap.size≤bw:=by rw [HBW.out]; exact Nat.le_refl _
      have hx:=hW4.cell 0 rfl
      have hz:=hW4.frz 0
      have hcA:=hS4.blk.all
      have hcv:=vJ (P:=Tryz.prog) w4.drew 87 9 5 Tryz.underlying87 Tryz.underlying5 Tryz.underlying9 (v:=v4) (n:=o.length) (l:=o) hS4.row.drew
      have HT:=Lib.hid (ZX (bw+1) w4.drew _ s a5 false hS4.rd hs)
      go_wp2
      refine zei ?_
      go_region_law ((go_simp; go_at_call 226; refine HT.out.mono ?_; rintro e w5 ⟨rfl,rfl⟩))
      all_goals go_wp2
      all_goals (
       have hcell:(w4.setCell ⟨bw,0,none⟩ (.int .i64 0)).cell? ⟨bw,0,none⟩=some (.int .i64 0):=(hW4.set 0 (.int .i64 0)).cell 0 rfl
       refine leaves_cons (f:=223) (args := #[.pointer (some ⟨bw,0,none⟩)]) (by simp) (by simp [go_sem]) ?_
       refine (YY ⟨bw,0,none⟩ _).mono ?_
       rintro e u' w'' ⟨rfl,rfl,rfl⟩
       simp [Leaves,settle,results,Tryz.results201,go_sem,hcell]
       rw [HE.out]
       exact ⟨rfl,(hUw4.setCell (.inr HBL) _).drew⟩)
    | false =>
      have HE:=Lib.hid (show CP=qu s M (8*s.size+1) g o a5 by rw [hE2]; rfl)
      clear hE2
      go_wp2_with fail
      refine (Vb hSt.1 hs (by omega) hb).mono ?_
      rintro e w4 ⟨rfl,v4,hS4,hU4,hT4⟩
      have hne:=hSt.2.2.ne hlt3 (show (Value.slice none 0 0).ownBlock≠some bw by simp [Value.ownBlock])
      have hW4:=hW.upd hU4 (by simp only [yR,List.mem_cons,Option.mem_toList]; rintro (h | h | h)<;>first | omega | exact hne h)
      go_wp2
      go_roundg g
      · exact ⟨g,o,a5,v4,rfl,HE,by omega,hSt.next hS4 hU4 hT4,hW4⟩
      · omega
end Go.Proofs.YtigjingielnaoaaGreatDoor
namespace Go.Proofs.YtigjingielnaoaaGreatDoor
open Go.RowKit
def xL (x:ByteArray):Nat×Nat×Nat×Nat×Bool :=
 if x.size<12∨(gN x 0 4=134695760∧x.size<16) then (0,0,0,0,false)
 else if gN x 0 4=134695760 then (gN x 4 4,gN x 8 4,gN x 12 4,16,true) else (gN x 0 4,gN x 4 4,gN x 8 4,12,true)
def xg (s:ByteArray) (a:Int):Nat×Nat×Nat×Nat×Bool:=if a<0∨(s.size:Int)<a then (0,0,0,0,false) else xL (s.extract a.toNat s.size)
end Go.Proofs.YtigjingielnaoaaGreatDoor
namespace Go.Proofs.YtigjingielnaoaaGreatDoor
open Go.RowKit
def ofT:Except Nat (List Nat×Nat)→ByteArray×Nat×Nat
 | .ok (out,a)=>(zf out,(a+7)/8,0)
 | .error c=>(⟨#[]⟩,0,c)
theorem WX (r:Except Nat (List Nat×Nat)):zaq r = .tuple #[.string (ofT r).1,.int .i64 ((ofT r).2.1:Nat),.int .i64 ((ofT r).2.2:Nat)]:=by
 cases r with
 | ok x=>rfl
 | error c=>rfl
def ky (h r:RecD):Bool:=decide (h.p=r.p∧h.m=r.m∧h.k=r.k∧h.t=r.t∧h.pos=r.pos)
def ql (s:ByteArray) (h r:RecD) (f:Int) (b:Bool):Nat×Nat :=
 if b=true then
  (if (xg s (f+r.l)).2.2.2.2=false then (0,3)
  else if (xg s (f+r.l)).1≠r.sum∨((xg s (f+r.l)).2.1:Int)≠r.l∨((xg s (f+r.l)).2.2.1:Int)≠r.wh then (0,2) else ((xg s (f+r.l)).2.2.2.1,0))
 else if h.sum≠r.sum∨h.l≠r.l∨h.wh≠r.wh then (0,2) else (0,0)
def Yh (d:ByteArray) (r:RecD):ByteArray×Nat :=
 if 65000<r.wh then (⟨#[]⟩,4) else if (d.size:Int)≠r.wh then (⟨#[]⟩,2) else if r.k=1∧yy d≠r.sum then (⟨#[]⟩,11) else (d,0)
def xJ (d:ByteArray) (r:RecD):ByteArray×Nat :=
 if r.m=8 then (if (ofT (ofP d r.wh)).2.2≠0 then (⟨#[]⟩,(ofT (ofP d r.wh)).2.2) else if (ofT (ofP d r.wh)).2.1≠d.size then (⟨#[]⟩,2) else Yh (ofT (ofP d r.wh)).1 r) else Yh d r
def xd (s:ByteArray) (r:RecD):ByteArray×Int×Nat :=
 if zM r≠0 then (⟨#[]⟩,0,1)
 else if (zj s r.pos).2.2.2≠0 then (⟨#[]⟩,0,(zj s r.pos).2.2.2)
 else if ky (zj s r.pos).1 r=false then (⟨#[]⟩,0,2)
 else if (ql s (zj s r.pos).1 r (r.pos+(zj s r.pos).2.1) (zj s r.pos).2.2.1).2≠0 then (⟨#[]⟩,0,(ql s (zj s r.pos).1 r (r.pos+(zj s r.pos).2.1) (zj s r.pos).2.2.1).2)
 else if (s.size:Int)-(r.pos+(zj s r.pos).2.1)<r.l then (⟨#[]⟩,0,3)
 else if (xJ (s.extract (r.pos+(zj s r.pos).2.1).toNat (r.pos+(zj s r.pos).2.1+r.l).toNat) r).2≠0 then (⟨#[]⟩,0,(xJ (s.extract (r.pos+(zj s r.pos).2.1).toNat (r.pos+(zj s r.pos).2.1+r.l).toNat) r).2)
 else ((xJ (s.extract (r.pos+(zj s r.pos).2.1).toNat (r.pos+(zj s r.pos).2.1+r.l).toNat) r).1,(zj s r.pos).2.1+r.l+(ql s (zj s r.pos).1 r (r.pos+(zj s r.pos).2.1) (zj s r.pos).2.2.1).1,0)
def WQ (x:ByteArray×Int×Nat):Value := .tuple #[.string x.1,.int .i64 x.2.1,.int .i64 (x.2.2:Nat)]
theorem Ji {r:RecD} (h:zM r=0):(0≤r.l∧r.l<2147483648)∧(0≤r.wh∧r.wh<2147483648)∧(0≤r.pos∧r.pos<2147483648)∧(r.k=1∨r.k=2∧r.sum=0∧r.l=0∧r.wh=0∧r.m=0):=by
 obtain ⟨h1,h2,-,-⟩:=XI h
 unfold xH at h2
 split at h2
 · cases h2
 rename_i h3
 simp only [not_or,yq,Bool.not_eq_false,Bool.and_eq_true,decide_eq_true_eq] at h3
 refine ⟨h3.2.1,h3.2.2.1,h3.2.2.2,?_⟩
 unfold vh at h1
 simp only [Bool.and_eq_true,decide_eq_true_eq] at h1
 have hk:=h1.2
 have hp:=h1.1.1
 by_cases h5:r.k=2
 · rw [if_pos h5] at h2
   simp only [Bool.and_eq_true,decide_eq_true_eq] at h2
   exact .inr ⟨h5,h2.1.1.1,h2.1.1.2,h2.1.2,h2.2⟩
 · left
   unfold zv at hk hp
   repeat' split at hk
   all_goals simp_all
   all_goals omega
theorem Jk {s:ByteArray} {a:Int} (h:(zj s a).2.2.2=0):(zj s a).1.pos=a∧(zj s a).2.1≤s.size∧0≤a∧a+(zj s a).2.1≤s.size:=by
 unfold zj at h ⊢
 split at h
 · cases h
 rename_i h1
 rw [if_neg h1]
 have hz:(s.extract a.toNat s.size).size=s.size-a.toNat:=by rw [ByteArray.size_extract]; omega
 unfold QM at h ⊢
 split at h
 · cases h
 rename_i h2
 rw [if_neg h2]
 repeat' split at h
 all_goals first | (cases h; done) | skip
 rename_i h3 h4 h5
 rw [if_neg h3,if_neg h4,if_neg h5]
 refine ⟨?_,?_,?_,?_⟩
 · show ((a.toNat:Nat):Int)=a; omega
 · show qE _≤_; omega
 · omega
 · show a+((qE _:Nat):Int)≤_; omega
theorem Qc (s:ByteArray) (h r:RecD) (f:Int) (b:Bool):(ql s h r f b).1≤16:=by
 have h1:(xg s (f+r.l)).2.2.2.1≤16:=by
  unfold xg xL
  repeat' split
  all_goals (dsimp only; omega)
 unfold ql
 repeat' split
 all_goals first | exact Nat.zero_le _ | exact h1
end Go.Proofs.YtigjingielnaoaaGreatDoor
