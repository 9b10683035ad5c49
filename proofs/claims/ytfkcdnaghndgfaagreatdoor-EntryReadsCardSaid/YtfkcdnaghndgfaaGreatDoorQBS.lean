/- BlockMade: plain: what a plan's lengths are. -/
import Derived.Test.YtfkcdnaghndgfaaGreatDoorQBR
import Derived.Test.YtfkcdnaghndgfaaGreatDoorQAC
import Derived.Test.YtfkcdnaghndgfaaGreatDoorQAL
import Derived.Test.YtfkcdnaghndgfaaGreatDoorQBN
set_option linter.unusedVariables false
set_option linter.unusedSimpArgs false
set_option linter.unusedSectionVars false
namespace Go.Proofs.YtfkcdnaghndgfaaGreatDoor
theorem WH (l:List Nat):ze (ints l)=l:=by
 unfold ze ints
 rw [List.map_map]
 have:(Int.toNat∘fun x:Nat=>(x:Int))=id:=by funext x; simp
 rw [this,List.map_id]
theorem Kg {l:List Nat} (h1:l.length≤300) (h2 : ∀ x∈l,x≤15):yG (ints l)=true:=by
 refine kD (by simpa [ints] using h1) (fun k hk=>?_)
 obtain ⟨x,hx,rfl⟩:=List.mem_map.1 hk
 have:=h2 x hx
 omega
theorem zg8 (a b:List Nat):yy (a++b)=yy a+yy b:=by unfold yy; simp
theorem Qw : ∀ (l:List Nat),(∀ x∈l,x=0)→yy l=0
 | [],_=>rfl
 | x::l,h=>by
   have h1:=h x List.mem_cons_self
   have h2:=Qw l (fun y hy=>h y (List.mem_cons_of_mem _ hy))
   unfold yy at *
   rw [List.map_cons,List.sum_cons,h2,h1]
   rfl
theorem zdM {l:List Nat} {least:Int} {n m:Nat} (h:TrimO l least n m) (hl:l.length=n) : ∀ x∈l.drop m,x=0:=by
 intro x hx
 obtain ⟨i,hi,rfl⟩:=List.getElem_of_mem hx
 rw [List.length_drop] at hi
 have:=h.zero (m+i) (by omega) (by omega)
 rw [List.getElem_drop]
 rw [List.getD_eq_getElem?_getD,List.getElem?_eq_getElem (by omega)] at this
 exact this
theorem Vb {l:List Nat} {least:Int} {n m:Nat} (h:TrimO l least n m) (hl:l.length=n):yy (l.take m)=yy l:=by
 conv=>rhs; rw [← List.take_append_drop m l,zg8,Qw _ (zdM h hl)]
 rfl
theorem QL (p:Int→Bool) (h0:p 0=false) (h1:p 1=true) : ∀ (m s:Nat),s<m→(ints ((List.replicate m 0).set s 1)).countP p=1
 | m+1,0,_=>by
   rw [List.replicate_succ,List.set_cons_zero]
   show (((1:Nat):Int)::ints (List.replicate m 0)).countP p=1
   rw [List.countP_cons]
   have e:(ints (List.replicate m 0)).countP p=0:=by
    rw [List.countP_eq_zero]
    intro a ha
    obtain ⟨x,hx,rfl⟩:=List.mem_map.1 ha
    rw [List.eq_of_mem_replicate hx]
    simpa using h0
   rw [e]
   simp [h1]
 | m+1,s+1,h=>by
   rw [List.replicate_succ,List.set_cons_succ]
   show (((0:Nat):Int)::ints ((List.replicate m 0).set s 1)).countP p=1
   rw [List.countP_cons,QL p h0 h1 m s (by omega)]
   simp [h0]
theorem zc4 {many:List Int} {n m:Nat} {u:List Nat} {least:Int} (hn:many.length=n) (h300:n≤300) (hu:IsUsed many n u) (hm:TrimO (ofL many u 15 n) least n m) :
 (u=[]→zg (ints ((ofL many u 15 n).take m))=0)∧(u≠[]→ye (ints ((ofL many u 15 n).take m))=true):=by
 have hk:u.length≤2^15:=by have:=hu.le; omega
 have hf:=Je hn hu 15 (by omega) (by omega) hk
 have hl:=qT many u 15 n
 have h15:=JH hn hu (L:=15) (by omega) (by omega) hk
 have ho:yG (ints ((ofL many u 15 n).take m))=true:=Kg (by rw [List.length_take]; omega) (fun x hx=>h15 x (List.mem_of_mem_take hx))
 have hw:=Vb hm hl
 constructor
 · intro h0
   unfold zg
   rw [if_pos ho,WH]
   unfold jo
   rw [if_pos (by rw [hw,hf.none h0])]
 · intro hne
   rcases Nat.lt_or_ge u.length 2 with h2 | h2
   · have h1:u.length=1:=by have:=List.length_pos_iff.2 hne; omega
     obtain ⟨s,rfl⟩:=List.length_eq_one_iff.1 h1
     have hs:s<n:=((hu.mem s).1 (by simp)).1
     have hone:=hf.one rfl
     have hsm:s<m:=by
      rcases Nat.lt_or_ge s m with h | h
      · exact h
      · have:=hm.zero s h hs
        simp at hone
        rw [List.getD_eq_getElem?_getD] at this
        omega
     have e:(ofL many [s] 15 n).take m=(List.replicate m 0).set s 1:=by
      have hml:=hm.le
      have e0:ofL many [s] 15 n=(List.replicate n 0).set s 1:=by simp [ofL]
      rw [e0]
      rw [List.take_set,List.take_replicate,Nat.min_eq_left hml]
     unfold ye jn JE
     rw [e,QL _ (by simp) (by simp) m s hsm,QL _ (by simp) (by simp) m s hsm]
     simp
   · unfold ye zg
     rw [if_pos ho,WH]
     unfold jo
     rw [hw,hf.two h2]
     simp
theorem zep (p:List Nat×List Nat) (t:Tok) (h:1≤p.1.getD 256 0) (hl:p.1.length=286) (ht:zH t):1≤(jI p t).1.getD 256 0:=by
 show 1≤(xF p.1 (qn t)).getD 256 0
 rw [qO _ _ _ (by rw [hl]; exact kL ht)]
 omega
theorem Yf (l:List Tok) (hok : ∀ t∈l,zH t) : ∀ i,i≤l.length→1≤(zo (l.take i)).1.getD 256 0
 | 0,_=>by
   rw [List.take_zero,kI]
   show 1≤(((List.replicate 286 0).set 256 1)).getD 256 0
   rw [List.getD_eq_getElem?_getD,List.getElem?_set_self (by rw [List.length_replicate]; omega)]
   exact Nat.le_refl _
 | i+1,h=>by
   rw [List.take_succ_eq_append_getElem (by omega),jT]
   exact zep _ _ (Yf l hok i (by omega)) (qt l i (by omega)).la (hok _ (List.getElem_mem _))
theorem Vg : ∀ (i:Nat) (l:List StpD),i≤l.length→(∀ s∈l,s.sym<19) → ∀ s∈l.take i,1≤(zB (l.take i)).getD s.sym 0
 | 0,l,_,_,s,hs=>by simp at hs
 | i+1,l,h,hsy,s,hs=>by
   have hil:i<l.length:=by omega
   have hl:=(qP l i (by omega)).1
   have h19:=hsy l[i] (List.getElem_mem hil)
   rw [List.take_succ_eq_append_getElem hil] at hs ⊢
   rw [vQ]
   unfold YD
   rw [if_pos (by omega),qO _ _ _ (by omega)]
   rcases List.mem_append.1 hs with h1 | h1
   · have:=Vg i l (by omega) hsy s h1
     omega
   · rw [List.mem_singleton] at h1
     rw [h1,if_pos rfl]
     omega
theorem zdm (c:List Nat) (hl:c.length=19) (j:Nat):c.getD j 0≤(ji c).getD j 0:=by
 have hs : ∀ i x,i<19→c.getD i 0≤x→c.getD j 0≤(c.set i x).getD j 0:=fun i x hi hx=>by
  by_cases h:i=j
  · subst h
    rw [List.getD_eq_getElem?_getD (l:=c.set i x),List.getElem?_set_self (by omega)]
    exact hx
  · rw [List.getD_eq_getElem?_getD (l:=c.set i x),List.getElem?_set_ne h,List.getD_eq_getElem?_getD]
    exact Nat.le_refl _
 unfold ji
 split
 · rename_i h1
   split
   · rename_i h0
     exact hs 0 1 (by omega) (by omega)
   · rename_i h0
     refine hs 1 1 (by omega) ?_
     rcases Nat.eq_zero_or_pos (c.getD 1 0) with h2 | h2
     · omega
     · exfalso
       have m0:0∈xB (ints c) 19:=(xY _ _ _).2 ⟨by omega,by rw [zY]; omega⟩
       have m1:1∈xB (ints c) 19:=(xY _ _ _).2 ⟨by omega,by rw [zY]; omega⟩
       obtain ⟨s,hs⟩:=List.length_eq_one_iff.1 h1
       rw [hs] at m0 m1
       simp at m0 m1
       omega
 · exact Nat.le_refl _
theorem zcN {l:List Nat} {a b:Nat} (ha:a∈l) (hb:b∈l) (h:a≠b):2≤l.length:=by
 match l,ha,hb with
 | [x],ha,hb=>simp at ha hb; omega
 | x::y::r,_,_=>simp
theorem zgD (c:List Nat) (hl:c.length=19) (j:Nat) (hj:j<19) (h:1≤c.getD j 0):2≤(xB (ints (ji c)) 19).length:=by
 have hin : ∀ i,i<19→1≤(ji c).getD i 0→i∈xB (ints (ji c)) 19:=fun i hi hx=>(xY _ _ _).2 ⟨hi,by rw [zY]; omega⟩
 have hmj:=hin j hj (Nat.le_trans h (zdm c hl j))
 by_cases h1:(xB (ints c) 19).length=1
 · obtain ⟨s,hs⟩:=List.length_eq_one_iff.1 h1
   have hsj:j=s:=by
    have:j∈xB (ints c) 19:=(xY _ _ _).2 ⟨hj,by rw [zY]; omega⟩
    rw [hs] at this
    simpa using this
   by_cases h0:c.getD 0 0=0
   · have e:ji c=c.set 0 1:=by unfold ji; rw [if_pos h1,if_pos h0]
     refine zcN hmj (hin 0 (by omega) ?_) (fun e2=>?_)
     · rw [e,List.getD_eq_getElem?_getD,List.getElem?_set_self (by omega)]; exact Nat.le_refl _
     · rw [e2] at h; omega
   · have e:ji c=c.set 1 1:=by unfold ji; rw [if_pos h1,if_neg h0]
     have hj0:j=0:=by
      have:0∈xB (ints c) 19:=(xY _ _ _).2 ⟨by omega,by rw [zY]; omega⟩
      rw [hs] at this
      simp at this
      omega
     refine zcN hmj (hin 1 (by omega) ?_) (by omega)
     rw [e,List.getD_eq_getElem?_getD,List.getElem?_set_self (by omega)]; exact Nat.le_refl _
 · have e:ji c=c:=by unfold ji; rw [if_neg h1]
   rw [e] at hmj ⊢
   have:=List.length_pos_of_mem hmj
   omega
structure MadeL (l:List Tok) (lits backs:List Nat) (steps:List StpD) (lens:List Nat):Prop where
 okA:ye (ints lits)=true
 okB:zg (ints backs)=0∨ye (ints backs)=true
 okC:zg (ints lens)=1
 sy : ∀ s∈steps,s.sym<19∧1≤lens.getD s.sym 0∧lens.getD s.sym 0≤7
 dec:zc0 [] steps∧ziO steps=lits++backs
 cost : ∀ u,IsUsed (ints (zo l).1) 286 u→2≤u.length→u.length≤8→qH (ints (zo l).1) lits lits.length≤qH (ints (zo l).1) (ofL (ints (zo l).1) u 7 286) 286
theorem zdc {many:List Int} {n:Nat} {u:List Nat} (hu:IsUsed many n u) : ∀ (d L:Nat),u.length≤2^L→qH many (ofL many u (L+d) n) n≤qH many (ofL many u L n) n
 | 0,L,_=>Nat.le_refl _
 | d+1,L,hk=>by
   have h1:=zdc hu d L hk
   have h2:=zdw hu (L+d) (Nat.le_trans hk (Nat.pow_le_pow_right (by omega) (by omega)))
   exact Nat.le_trans h2 h1
theorem zd6 (many:List Int) (l:List Nat) {least:Int} {n m:Nat} (h:TrimO l least n m) (hl:l.length=n):qH many (l.take m) m=qH many l n:=by
 have key : ∀ k,m+k≤n→qH many l (m+k)=qH many l m:=by
  intro k
  induction k with
  | zero=>intro _; rfl
  | succ k ih =>
    intro hk
    have hz:=h.zero (m+k) (by omega) (by omega)
    have:=ih (by omega)
    unfold qH at *
    rw [← Nat.add_assoc,zX,this,hz]
    simp
 have e:qH many (l.take m) m=qH many l m:=by
  unfold qH
  refine qg (fun i hi=>?_)
  have e2:(l.take m).getD i 0=l.getD i 0:=by rw [List.getD_eq_getElem?_getD,List.getElem?_take,if_pos hi,List.getD_eq_getElem?_getD]
  rw [e2]
 have hm:=h.le
 have:=key (n-m) (by omega)
 rw [show m+(n-m)=n by omega] at this
 rw [e,this]
theorem MadeO.law {l:List Tok} {lits backs lens:List Nat} {steps:List StpD} (h:MadeO l lits backs steps lens) (hl:(zo l).1.length=286∧(zo l).2.length=30) (hok : ∀ t∈l,zH t):MadeL l lits backs steps lens:=by
 obtain ⟨m1,m1',m2,m2',x15,y15,hsy,hl7,hl19,hsl⟩:=h.bd hl
 have hs19:(zB steps).length=19:=by have:=(qP steps steps.length (Nat.le_refl _)).1; rwa [List.take_length] at this
 have i1:(ints (zo l).1).length=286:=by simp [ints,hl.1]
 have i2:(ints (zo l).2).length=30:=by simp [ints,hl.2]
 have i3:(ints (ji (zB steps))).length=19:=by simp [ints,XA,hs19]
 obtain ⟨u1,m1x,hu1,ht1,e1⟩:=h.a
 obtain ⟨u2,m2x,hu2,ht2,e2⟩:=h.b
 obtain ⟨u3,hu3,e3⟩:=h.c
 have h256:1≤(zo l).1.getD 256 0:=by have:=Yf l hok l.length (Nat.le_refl _); rwa [List.take_length] at this
 have hne1:u1≠[]:=fun e=>by
  have:=(hu1.mem 256).2 ⟨by omega,by rw [zY]; omega⟩
  rw [e] at this
  simp at this
 have hcm : ∀ s∈steps,1≤(zB steps).getD s.sym 0:=fun s hs=>by
  have:=Vg steps.length steps (Nat.le_refl _) (fun s hs=>(hsy s hs).1) s (by rw [List.take_length]; exact hs)
  rwa [List.take_length] at this
 have hdec:=zda (lits.length+backs.length) (ints (lits++backs)) (-1) [] (by simp [ints]) (fun x hx=>by
  obtain ⟨y,hy,rfl⟩:=List.mem_map.1 hx
  rcases List.mem_append.1 hy with hy | hy
  · have:=x15 y hy; omega
  · have:=y15 y hy; omega) (by simp [ints]; omega) (.inl ⟨rfl,rfl⟩)
 rw [← h.s] at hdec
 have hd2:ziO steps=lits++backs:=by
  show steps.foldl Xz []=_
  rw [hdec.2]
  exact WH _
 have hf3:=Je i3 hu3 7 (by omega) (by omega) (by have:=hu3.le; omega)
 have hsne : ∃ s,s∈steps:=by
  cases hst:steps with
  | nil =>
    exfalso
    rw [hst] at hd2
    have:=congrArg List.length hd2
    simp [ziO] at this
    omega
  | cons s r=>exact ⟨s,List.mem_cons_self⟩
 obtain ⟨s0,hs0⟩:=hsne
 have h2:2≤u3.length:=by rw [zaW hu3]; exact zgD _ hs19 s0.sym (hsy s0 hs0).1 (hcm s0 hs0)
 refine ⟨?_,?_,?_,?_,⟨hdec.1,hd2⟩,?_⟩
 · rw [e1]; exact (zc4 i1 (by omega) hu1 ht1).2 hne1
 · rw [e2]
   have:=zc4 i2 (by omega) hu2 ht2
   by_cases hu:u2=[]
   · exact .inl (this.1 hu)
   · exact .inr (this.2 hu)
 · have ho:yG (ints lens)=true:=Kg (by omega) (fun x hx=>by have:=hl7 x hx; omega)
   unfold zg
   rw [if_pos ho,WH]
   unfold jo
   rw [e3,hf3.two h2]
   simp
 · intro s hs
   obtain ⟨h1,_⟩:=hsy s hs
   refine ⟨h1,?_,vg hl7 _⟩
   have:=(hf3.iff s.sym h1).2 (by rw [zY]; have:=zdm _ hs19 s.sym; have:=hcm s hs; omega)
   rw [e3]
   exact this
 · intro u hu hu2' hu8
   obtain rfl:=hu.uniq hu1
   have hl1:=qT (ints (zo l).1) u 15 286
   have hlm:lits.length=m1x:=by rw [e1,List.length_take,hl1]; exact Nat.min_eq_left ht1.le
   rw [hlm,e1,zd6 _ _ ht1 hl1]
   exact zdc hu 8 7 (by omega)
end Go.Proofs.YtfkcdnaghndgfaaGreatDoor
namespace Go.Proofs.YtfkcdnaghndgfaaGreatDoor
open Go.RowKit
def ZG (na nb:List Nat) (t:Tok):List Bool :=
 if t.long=0 then zN na t.byte
 else zN na (qn t)++(low (xC.getD ((zP t.long.toNat 29 0).getD 0) 0) (t.long.toNat-lAt.getD ((zP t.long.toNat 29 0).getD 0) 0)++(zN nb (qM t)++low (dBt (qM t)) (t.back.toNat-dAt.getD (qM t) 0)))
def XI (na nb:List Nat):List Tok→List Bool
 | []=>zN na 256
 | t::r=>ZG na nb t++XI na nb r
structure Coded (na nb:List Nat) (l:List Tok):Prop where
 fin:na.getD 256 0≠0
 lit : ∀ t∈l,na.getD (qn t) 0≠0
 bak : ∀ t∈l,t.long≠0→nb.getD (qM t) 0≠0
structure WS (w0:World) (b:Nat) (v0:Value) (w:World) (v:Value) (L:List Bool):Prop where
 at_:WrAt w b v L (L.length/8)
 upd:Upd (zU b v0) w0 w
 later:Later w0 v0 v
theorem WS.fp {w0 w w':World} {b:Nat} {v0 v:Value} {L:List Bool} (h:WS w0 b v0 w v L) (hU:Upd (zU b v) w w'):Upd (zU b v0) w0 w' :=
 h.upd.trans hU (fun k hk=>by
  rcases List.mem_cons.1 hk with rfl | hk
  · exact .inl List.mem_cons_self
  · rcases h.later.fp k hk with h1 | h1
    · exact .inl (List.mem_cons_of_mem _ h1)
    · exact .inr h1)
theorem WS.refl {w:World} {b:Nat} {v:Value} {L:List Bool} (h:WrAt w b v L (L.length/8)):WS w b v w v L:=⟨h,Upd.refl _ _,Later.refl _ _⟩
theorem WS.pure {w0 w w':World} {b:Nat} {v0 v:Value} {L:List Bool} (h:WS w0 b v0 w v L) (hU:Upd [] w w'):WS w0 b v0 w' v L :=
 ⟨h.at_.upd hU (by simp) (by simp),h.upd.trans hU (by simp),h.later⟩
theorem WS.step {w0 w w':World} {b:Nat} {v0 v v':Value} {L L':List Bool} (h:WS w0 b v0 w v L) (hW:WrAt w' b v' L' (L'.length/8)) (hU:Upd (zU b v) w w') (hT:Later w v v'):WS w0 b v0 w' v' L' :=
 ⟨hW,h.fp hU,h.later.trans h.upd.size hT⟩
theorem jJ (l:List Nat):ze (ints l)=l:=by
 unfold ze ints
 rw [List.map_map]
 have:(Int.toNat∘fun x:Nat=>(x:Int))=id:=by funext x; simp
 rw [this,List.map_id]
def ziQ (w:World) (b:Nat) (v:Value) (L:List Bool) (e:Ending) (w':World):Prop:=e = .returned (.bool true) ∧ ∃ v',WrAt w' b v' L (L.length/8)∧Upd (zU b v) w w'∧Later w v v'
theorem vZ (b nx cx S:Nat) (v:Value) (L:List Bool) (x:Option Addr) (na:List Nat) (w:World) (hX : ∀ w',Upd (zU b v) w w'→IntsIn w' x nx (ints na)) (hW:WrAt w b v L (L.length/8)) (hL:L.length≤1000000000000)
 (hk3:zg (ints na)≠3) (h0:na.getD S 0≠0) :
 Calls Tryz.prog 152 #[.pointer (some ⟨b,0,none⟩),.slice x nx cx,.slice (some ⟨w.heap.size,0,none⟩) 1 1] (w.alloc (.cells #[.int .i64 (S:Nat)] 3)) (ziQ w b v (L++zN na S)):=by
 have hlen:nx=(ints na).length:=(hX w (Upd.refl _ _)).len.symm
 subst hlen
 have hUa:Upd [] w (w.alloc (.cells #[.int .i64 (S:Nat)] 3)):=(Upd.refl [] w).alloc _
 have hWa:=hW.upd hUa (by simp) (by simp)
 have hB:=Blk.new w [.int .i64 (S:Nat)] 3
 have hS:S<na.length:=by
  rcases Nat.lt_or_ge S na.length with h | h
  · exact h
  · rw [List.getD_eq_getElem?_getD,List.getElem?_eq_none h] at h0
    exact absurd rfl h0
 have hS64:(S:Int)≤9223372036854775807:=by
  have h1:=(zy (xz hk3).1).1
  simp [ints] at h1
  omega
 have hne:w.heap.size∉zU b v:=fun hm=>by
  rcases List.mem_cons.1 hm with h | h
  · have:=hW.blk.lt; omega
  · have:=hW.row.lt w.heap.size (by simpa using h); omega
 have h:=ze7 b v L x (some ⟨w.heap.size,0,none⟩) cx 1 (ints na) [(S:Int)] (w.alloc (.cells #[.int .i64 (S:Nat)] 3)) (by simp)
  (fun w' hU=>hX w' ((hUa.mono (by simp)).then hU)) (fun w' hU=>IntsIn.of_blk (l:=[(S:Int)]) (hB.upd hU hne) (fun y hy=>by rw [List.mem_singleton] at hy; rw [hy]; omega)) hWa hL hk3
  (by
   rw [jJ]
   simp only [KS,List.all_cons,List.all_nil,Bool.and_true,zgc,Int.toNat_natCast]
   simp only [Bool.and_eq_true,decide_eq_true_eq]
   exact ⟨⟨by omega,by omega⟩,h0⟩)
 refine h.mono (fun e w' h2=>?_)
 obtain ⟨he,v',h3,h4,h5⟩:=h2
 rw [jJ] at h3
 have e2:yU na [(S:Int)]=zN na S:=by simp [yU]
 rw [e2] at h3
 exact ⟨he,v',h3,(hUa.mono (by simp)).then h4,by
  rcases h5 with h5 | ⟨g,h6,h7⟩
  · exact .inl h5
  · exact .inr ⟨g,h6,Nat.le_trans hUa.size h7⟩⟩
end Go.Proofs.YtfkcdnaghndgfaaGreatDoor
namespace Go.Proofs.YtfkcdnaghndgfaaGreatDoor
open Go.RowKit
theorem zem {na:List Nat} (h : ∀ x∈na,x≤15) (j:Nat):na.getD j 0≤15:=by
 rw [List.getD_eq_getElem?_getD]
 cases h2:na[j]? with
 | none=>simp
 | some y=>exact h y (List.mem_of_getElem? h2)
theorem lB5 : ∀ r:Fin 29,xC.getD r.val 0≤5:=by decide +kernel
theorem kV (na:List Nat) (h15 : ∀ x∈na,x≤15) (S:Nat):(zN na S).length≤15:=by
 rw [xM]
 exact zem h15 S
theorem zhP {na nb:List Nat} (ha : ∀ x∈na,x≤15) (hb : ∀ x∈nb,x≤15) (t:Tok) (ht:zH t):(ZG na nb t).length≤60:=by
 unfold ZG
 split
 · have:=kV na ha t.byte; omega
 · rename_i h0
   simp only [List.length_append,zk]
   have h1:=kV na ha (qn t)
   have h2:=kV nb hb (qM t)
   have hq:(zP t.long.toNat 29 0).getD 0<29:=by
    have:=JV ⟨t.long.toNat,by unfold zH at ht; omega⟩ (show 3≤t.long.toNat by unfold zH at ht; omega)
    dsimp only at this
    cases e:zP t.long.toNat 29 0 with
    | none=>simp
    | some r=>rw [e] at this; simp at this; simpa using this
   have h3:xC.getD ((zP t.long.toNat 29 0).getD 0) 0≤5:=lB5 ⟨_,hq⟩
   have h4:dBt (qM t)≤14:=by
    unfold qM
    obtain ⟨r,e1,e2⟩:=jM t.back.toNat (by unfold zH at ht; omega) (by unfold zH at ht; omega)
    rw [e1]
    show dBt r≤14
    unfold dBt
    omega
   omega
def xL (na nb:List Nat) (l:List Tok):List Bool:=l.flatMap (ZG na nb)
theorem zcb (na nb:List Nat) (l:List Tok) (t:Tok):xL na nb (l++[t])=xL na nb l++ZG na nb t:=by unfold xL; rw [List.flatMap_append,List.flatMap_cons,List.flatMap_nil,List.append_nil]
theorem Jv (na nb:List Nat) : ∀ l,XI na nb l=xL na nb l++zN na 256
 | []=>rfl
 | t::l=>by
   show ZG na nb t++XI na nb l=_
   rw [Jv na nb l]
   unfold xL
   rw [List.flatMap_cons,List.append_assoc]
theorem zaS {na nb:List Nat} (ha : ∀ x∈na,x≤15) (hb : ∀ x∈nb,x≤15) : ∀ (l:List Tok),(∀ t∈l,zH t)→(xL na nb l).length≤60*l.length
 | [],_=>by simp [xL]
 | t::l,h=>by
   have h1:=zaS ha hb l (fun u hu=>h u (List.mem_cons_of_mem _ hu))
   have h2:=zhP ha hb t (h t List.mem_cons_self)
   unfold xL at *
   rw [List.flatMap_cons,List.length_append,List.length_cons]
   omega
theorem ziU : ∀ L:Fin 259,3≤L.val→L.val-lAt.getD ((zP L.val 29 0).getD 0) 0<4294967296∧xC.getD ((zP L.val 29 0).getD 0) 0≤5:=by decide +kernel
def zid (w:World) (b:Nat) (v:Value) (L:List Bool) (e:Ending) (w':World):Prop:=e = .returned (.tuple #[]) ∧ ∃ v',WS w b v w' v' L
set_option maxRecDepth 100000 in
set_option maxHeartbeats 12800000 in
theorem Qj (l:List Tok) (na nb:List Nat) (b:Nat) (v:Value) (L:List Bool) (a x y:Option Addr) (n cap nx cx ny cy:Nat) (w:World)
 (hI : ∀ w',Upd (zU b v) w w'→TokIn w' a n l) (hX : ∀ w',Upd (zU b v) w w'→IntsIn w' x nx (ints na)) (hY : ∀ w',Upd (zU b v) w w'→IntsIn w' y ny (ints nb))
 (hW:WrAt w b v L (L.length/8)) (hL:L.length≤100000000000) (hn:n≤100000) (hka:zg (ints na)≠3) (hkb:zg (ints nb)≠3) (hc:Coded na nb l) (hok : ∀ t∈l,zH t) :
 Calls Tryz.prog 123 #[.pointer (some ⟨b,0,none⟩),.slice a n cap,.slice x nx cx,.slice y ny cy] w (zid w b v (L++XI na nb l)):=by
 have Hx:=Lib.hid hX
 have Hy:=Lib.hid hY
 have HI:=Lib.hid hI
 have HLN:=Lib.hid (hI w (Upd.refl _ _)).len
 have HKna:=Lib.hid hka
 have HKnb:=Lib.hid hkb
 have HC:=Lib.hid hc
 have HOK:=Lib.hid hok
 have ha15 : ∀ x∈na,x≤15:=by have:=Jd (xz hka).1; rwa [jJ] at this
 have hb15 : ∀ x∈nb,x≤15:=by have:=Jd (xz hkb).1; rwa [jJ] at this
 have HTL:=Lib.hid (fun i=>zaS ha15 hb15 (l.take i) (fun t h=>hok t (List.mem_of_mem_take h)))
 have HA15:=Lib.hid ha15
 have HB15:=Lib.hid hb15
 have HW0:Hid (WS w b v w v (L++xL na nb (l.take 0))):=Lib.hid (by rw [List.take_zero]; show WS w b v w v (L++[]); rw [List.append_nil]; exact WS.refl hW)
 clear hI hX hY hka hkb hc hok ha15 hb15 hW
 go_enter Tryz.func123,Tryz.ntmps123
 go_wp2
 go_loopg [16] 200000 (fun gg s16 wr => ∃ i:Nat,i≤n∧gg=200000-i∧s16 = .int .i64 (i:Nat) ∧ ∃ v',Hid (WS w b v wr v' (L++xL na nb (l.take i))))
 case atStart=>exact ⟨0,by omega,by omega,rfl,v,HW0⟩
 case round =>
  clear HW0
  obtain ⟨i,hin,rfl,rfl,vi,HWi⟩:=hrel
  have htl:(xL na nb (l.take i)).length≤60*i:=Nat.le_trans (HTL.out i) (Nat.mul_le_mul_left _ (List.length_take_le _ _))
  have hLi:(L++xL na nb (l.take i)).length≤100006000000:=by rw [List.length_append]; omega
  by_cases hc:i<n
  · have hcz:(i:Int)<(n:Int):=by omega
    have hil:i<l.length:=by rw [HLN.out]; exact hc
    have hw1:IntKind.i64.wrap ((i:Int)+1)=((i+1:Nat):Int):=by rw [IntWalk.i64_in _ (by omega)]; rfl
    obtain ⟨bt,off,rfl,⟨hc1,hc2,hc3⟩,r1,r2,r3⟩:=(HI.out _ HWi.out.upd).cell i hil
    have HST:Hid (L++xL na nb (l.take (i+1))=(L++xL na nb (l.take i))++ZG na nb l[i]):=Lib.hid (by rw [List.take_succ_eq_append_getElem hil,zcb,List.append_assoc])
    have hot:=HOK.out l[i] (List.getElem_mem hil)
    have hlc:=HC.out.lit l[i] (List.getElem_mem hil)
    have hbc:=HC.out.bak l[i] (List.getElem_mem hil)
    have HTD:Hid (ZG na nb l[i]=if l[i].long=0 then zN na l[i].byte else zN na (qn l[i])++(low (xC.getD ((zP l[i].long.toNat 29 0).getD 0) 0) (l[i].long.toNat-lAt.getD ((zP l[i].long.toNat 29 0).getD 0) 0)++(zN nb (qM l[i])++low (dBt (qM l[i])) (l[i].back.toNat-dAt.getD (qM l[i]) 0)))):=Lib.hid rfl
    generalize xL na nb (l.take i)=TB at *
    generalize ZG na nb l[i]=TI at *
    generalize l[i]=t at *
    obtain ⟨tb,tl,tk⟩:=t
    dsimp only at hc1 hc2 hc3 r1 r2 r3 HTD hbc
    obtain ⟨LL,hLL⟩ : ∃ LL,L++TB=LL:=⟨_,rfl⟩
    rw [hLL] at HWi hLi HST
    have hT4:=Blk.new wr [.int .u8 (tb:Nat),.int .i64 tl,.int .i64 tk] 130
    have hU4:Upd [] wr (wr.alloc (.cells #[.int .u8 (tb:Nat),.int .i64 tl,.int .i64 tk] 130)):=(Upd.refl [] wr).alloc _
    have HW4:=Lib.hid (HWi.out.pure hU4)
    have hwb:b<wr.heap.size:=HWi.out.at_.blk.lt
    have hwv : ∀ k,vi.ownBlock=some k→k<wr.heap.size:=HWi.out.at_.row.lt
    clear hil hLL HWi htl
    go_upto_region 3 with fail
    change Code.wp _ _ _ _ (wr.alloc (.cells #[.int .u8 (tb:Nat),.int .i64 tl,.int .i64 tk] 130))
    generalize wr.alloc (.cells #[.int .u8 (tb:Nat),.int .i64 tl,.int .i64 tk] 130)=w4 at *
    generalize wr.heap.size=g at *
    have hgn:g∉zU b vi:=fun hm=>by
     rcases List.mem_cons.1 hm with h | h
     · omega
     · have:=hwv g (by simpa using h); omega
    have tA:=hT4.all
    have t2:=hT4.cell 2 rfl
    have HT4:=Lib.hid hT4
    have HGN:=Lib.hid hgn
    clear hT4 hU4 hc1 hc2 hc3 hwb hwv hgn
    by_cases h0:tl=0
    · have hb256:tb<256:=by unfold zH at hot; dsimp only at hot; omega
      have hlt:qn ⟨tb,tl,tk⟩=tb:=by unfold qn; rw [if_pos h0]
      rw [hlt] at hlc
      have HF:Hid (L++xL na nb (l.take (i+1))=LL++zN na tb):=Lib.hid (by rw [HST.out,HTD.out,if_pos h0])
      have HWc:=Lib.hid (vZ b nx cx tb vi LL x na w4 (fun w' h=>Hx.out w' (HW4.out.fp h)) HW4.out.at_ (by omega) HKna.out hlc)
      subst h0
      clear hlc hbc hot hlt HT4 HTD HST
      go_wp2_with fail
      refine HWc.out.mono ?_
      rintro e w6 ⟨rfl,v6,h61,h62,h63⟩
      have HW6:=Lib.hid (HW4.out.step h61 h62 h63)
      clear h61 h62 h63 HWc
      go_wp2
      go_roundg (200000-(i+1))
      · exact ⟨i+1,by omega,by first | rfl | omega,by first | rfl | go_num,v6,Lib.hid (by rw [HF.out]; exact HW6.out)⟩
      · omega
    · have hot2:3≤tl∧tl≤258∧1≤tk∧tk≤32768:=by unfold zH at hot; dsimp only at hot; omega
      obtain ⟨LN,rfl⟩ : ∃ LN:Nat,tl=(LN:Int):=⟨tl.toNat,by omega⟩
      obtain ⟨K,rfl⟩ : ∃ K:Nat,tk=(K:Int):=⟨tk.toNat,by omega⟩
      have HSL:=Lib.hid (fun w'=>VD LN w' (by omega) (by omega))
      have HSB:=Lib.hid (fun w'=>Vy K w' (by omega) (by omega))
      have hL29:=JV ⟨LN,by omega⟩ (by omega:3≤LN)
      have hMo:=ziU ⟨LN,by omega⟩ (by omega:3≤LN)
      have hlt:qn ⟨tb,(LN:Int),(K:Int)⟩=257+(zP LN 29 0).getD 0:=by unfold qn; rw [if_neg h0,Int.toNat_natCast]
      have hkt:qM ⟨tb,(LN:Int),(K:Int)⟩=(jb K 30 0).getD 0:=by unfold qM; rw [Int.toNat_natCast]
      have hTE:=HTD.out
      rw [if_neg h0,hlt,hkt] at hTE
      simp only [Int.toNat_natCast] at hTE
      rw [hlt] at hlc
      rw [hkt] at hbc
      have hbc0:=hbc h0
      dsimp only at hL29 hMo
      have h0b:((LN:Int)==0)=false:=by simpa using h0
      have hK:1≤K∧K≤32768:=by omega
      have HLC:=Lib.hid hlc
      have HBC:=Lib.hid hbc0
      have HTE:=Lib.hid hTE
      have HMo:=Lib.hid hMo
      clear hot hot2 hlc hbc hbc0 hlt hkt HTD hTE hMo
      go_wp2_with fail
      refine (HSL.out _).mono ?_
      rintro e wa ⟨r,hr,rfl,hUa⟩
      rw [hr] at hL29
      have hr29:r<29:=hL29
      have hLC:=HLC.out
      have hTE:=HTE.out
      have hMo:=HMo.out
      rw [hr] at hLC hTE hMo
      simp only [Option.getD_some] at hLC hTE hMo
      have HTa:=Lib.hid (HT4.out.upd hUa (by simp))
      have HWa:=Lib.hid (HW4.out.pure hUa)
      have hsa:=hUa.size
      have hg4:=HT4.out.lt
      clear hr hL29 hUa HT4 HW4 tA t2 HSL HLC HTE HMo
      unfold JY
      obtain ⟨xb,hxb⟩ : ∃ xb,xC.getD r 0=xb:=⟨_,rfl⟩
      obtain ⟨xm,hxm⟩ : ∃ xm,LN-lAt.getD r 0=xm:=⟨_,rfl⟩
      obtain ⟨c,hcc⟩ : ∃ c,257+r=c:=⟨_,rfl⟩
      rw [hxb,hxm] at hTE hMo
      rw [hcc] at hTE hLC
      rw [hcc,hxb,hxm]
      have HLC:=Lib.hid hLC
      have HTE:=Lib.hid hTE
      have hxm32:xm<4294967296:=hMo.1
      have hxb5:xb≤5:=hMo.2
      clear hcc hxb hxm hLC hTE hMo
      have hTb:=HTa.out.alloc (.cells #[.int .i64 (c:Nat),.int .i64 (xb:Nat),.int .i64 (xm:Nat)] 207)
      have hQb:=Blk.new wa [.int .i64 (c:Nat),.int .i64 (xb:Nat),.int .i64 (xm:Nat)] 207
      have HWb:=Lib.hid (HWa.out.pure ((Upd.refl [] wa).alloc (.cells #[.int .i64 (c:Nat),.int .i64 (xb:Nat),.int .i64 (xm:Nat)] 207)))
      have hwb:b<wa.heap.size:=HWa.out.at_.blk.lt
      have hwv : ∀ k,vi.ownBlock=some k→k<wa.heap.size:=HWa.out.at_.row.lt
      clear HTa HWa
      go_upto_region 6 with fail
      change Code.wp _ _ _ _ (wa.alloc (.cells #[.int .i64 (c:Nat),.int .i64 (xb:Nat),.int .i64 (xm:Nat)] 207))
      generalize wa.alloc (.cells #[.int .i64 (c:Nat),.int .i64 (xb:Nat),.int .i64 (xm:Nat)] 207)=wb at *
      generalize wa.heap.size=s1 at *
      have hs1n:s1∉zU b vi:=fun hm=>by
       rcases List.mem_cons.1 hm with h | h
       · omega
       · have:=hwv s1 (by simpa using h); omega
      have HS1:=Lib.hid hs1n
      have t2:=hTb.cell 2 rfl
      have HQb:=Lib.hid hQb
      clear hTb hQb hs1n hwb hwv
      go_wp2_with fail
      refine (HSB.out _).mono ?_
      rintro e wd ⟨z,hz,rfl,hUd⟩
      have hz30:z<30:=by
       obtain ⟨r,h1,h2⟩:=jM K hK.1 hK.2
       rw [hz] at h1
       cases h1
       exact h2
      have hBC:=HBC.out
      have hTE:=HTE.out
      rw [hz] at hBC hTE
      simp only [Option.getD_some] at hBC hTE
      have HWd:=Lib.hid (HWb.out.pure hUd)
      have HQd:=Lib.hid (HQb.out.upd hUd (by simp))
      have hsd:=hUd.size
      clear hz hUd HWb HQb t2 HSB HBC HTE
      unfold Yk
      obtain ⟨zb,hzb⟩ : ∃ zb,dBt z=zb:=⟨_,rfl⟩
      obtain ⟨zm,hzm⟩ : ∃ zm,K-dAt.getD z 0=zm:=⟨_,rfl⟩
      have hzb15:zb≤15:=by rw [← hzb]; unfold dBt; omega
      have hzm32:zm<4294967296:=by omega
      rw [hzb,hzm] at hTE ⊢
      have HTE:=Lib.hid hTE
      have HBC:=Lib.hid hBC
      clear hzb hzm hTE hBC
      have hRe:=Blk.new wd [.int .i64 (z:Nat),.int .i64 (zb:Nat),.int .i64 (zm:Nat)] 207
      have hQe:=HQd.out.alloc (.cells #[.int .i64 (z:Nat),.int .i64 (zb:Nat),.int .i64 (zm:Nat)] 207)
      have HWe:=Lib.hid (HWd.out.pure ((Upd.refl [] wd).alloc (.cells #[.int .i64 (z:Nat),.int .i64 (zb:Nat),.int .i64 (zm:Nat)] 207)))
      have hwb:b<wd.heap.size:=HWd.out.at_.blk.lt
      have hwv : ∀ k,vi.ownBlock=some k→k<wd.heap.size:=HWd.out.at_.row.lt
      clear HWd HQd
      go_upto_region 7 with fail
      change Code.wp _ _ _ _ (wd.alloc (.cells #[.int .i64 (z:Nat),.int .i64 (zb:Nat),.int .i64 (zm:Nat)] 207))
      generalize wd.alloc (.cells #[.int .i64 (z:Nat),.int .i64 (zb:Nat),.int .i64 (zm:Nat)] 207)=we at *
      generalize wd.heap.size=s2 at *
      have hs2n:s2∉zU b vi:=fun hm=>by
       rcases List.mem_cons.1 hm with h | h
       · omega
       · have:=hwv s2 (by simpa using h); omega
      have HS2:=Lib.hid hs2n
      have HRe:=Lib.hid hRe
      have HQe:=Lib.hid hQe
      have q0:=hQe.cell 0 rfl
      have HWc:=Lib.hid (vZ b nx cx c vi LL x na we (fun w' h=>Hx.out w' (HWe.out.fp h)) HWe.out.at_ (by omega) HKna.out HLC.out)
      clear hRe hQe hs2n hwb hwv
      go_wp2_with fail
      refine HWc.out.mono ?_
      rintro e w6 ⟨rfl,v6,h61,h62,h63⟩
      have HW6:=Lib.hid (HWe.out.step h61 h62 h63)
      have hQ6:=HQe.out.upd h62 HS1.out
      have HR6:=Lib.hid (HRe.out.upd h62 HS2.out)
      have HF6:=Lib.hid (h63.fp)
      have hqs:=HQe.out.lt
      have hrs:=HRe.out.lt
      have HS16:Hid (s1∉zU b v6):=Lib.hid (fun hm=>by
       rcases List.mem_cons.1 hm with h | h
       · exact HS1.out (by rw [h]; exact List.mem_cons_self)
       · rcases HF6.out s1 h with h1 | h1
         · exact HS1.out (List.mem_cons_of_mem _ h1)
         · omega)
      have HS26:Hid (s2∉zU b v6):=Lib.hid (fun hm=>by
       rcases List.mem_cons.1 hm with h | h
       · exact HS2.out (by rw [h]; exact List.mem_cons_self)
       · rcases HF6.out s2 h with h1 | h1
         · exact HS2.out (List.mem_cons_of_mem _ h1)
         · omega)
      clear h61 h62 h63 HWc HWe HQe HRe q0
      obtain ⟨L6,hL6⟩ : ∃ L6,LL++zN na c=L6:=⟨_,rfl⟩
      have hL6l:L6.length≤100006000015:=by rw [← hL6,List.length_append]; have:=kV na HA15.out c; omega
      rw [hL6] at HW6
      have HL6:=Lib.hid hL6
      have qA:=hQ6.all
      have hcv:IntKind.u32.wrap (xm:Int)=(xm:Int):=by simp [IntKind.wrap,IntKind.bits,IntKind.signed]; omega
      have HBX:=Lib.hid (yo b xm (xm:Int) (xb:Int) xb w6 v6 L6 rfl hxm32 HW6.out.at_ (by omega) (by omega) (Lib.hid (by omega)))
      clear hL6 hQ6
      go_wp2_with fail
      refine HBX.out.mono ?_
      rintro e w7 ⟨rfl,v7,h71,h72,h73⟩
      have HW7:=Lib.hid (HW6.out.step h71 h72 h73)
      have hR7:=HR6.out.upd h72 HS26.out
      have HF7:=Lib.hid (h73.fp)
      have hrs6:=HR6.out.lt
      have HS27:Hid (s2∉zU b v7):=Lib.hid (fun hm=>by
       rcases List.mem_cons.1 hm with h | h
       · exact HS26.out (by rw [h]; exact List.mem_cons_self)
       · rcases HF7.out s2 h with h1 | h1
         · exact HS26.out (List.mem_cons_of_mem _ h1)
         · omega)
      obtain ⟨L7,hL7⟩ : ∃ L7,L6++low xb xm=L7:=⟨_,rfl⟩
      have hL7l:L7.length≤100006000030:=by rw [← hL7,List.length_append,zk]; omega
      rw [hL7] at HW7
      have HL7:=Lib.hid hL7
      have p0:=hR7.cell 0 rfl
      have HR7:=Lib.hid hR7
      have HWc:=Lib.hid (vZ b ny cy z v7 L7 y nb w7 (fun w' h=>Hy.out w' (HW7.out.fp h)) HW7.out.at_ (by omega) HKnb.out HBC.out)
      clear h71 h72 h73 HBX HW6 HR6 qA hcv hL7 hR7
      go_wp2_with fail
      refine HWc.out.mono ?_
      rintro e w8 ⟨rfl,v8,h81,h82,h83⟩
      have HW8:=Lib.hid (HW7.out.step h81 h82 h83)
      have hR8:=HR7.out.upd h82 HS27.out
      obtain ⟨L8,hL8⟩ : ∃ L8,L7++zN nb z=L8:=⟨_,rfl⟩
      have hL8l:L8.length≤100006000045:=by rw [← hL8,List.length_append]; have:=kV nb HB15.out z; omega
      rw [hL8] at HW8
      have HL8:=Lib.hid hL8
      have pA:=hR8.all
      have hcz:IntKind.u32.wrap (zm:Int)=(zm:Int):=by simp [IntKind.wrap,IntKind.bits,IntKind.signed]; omega
      have HBX:=Lib.hid (yo b zm (zm:Int) (zb:Int) zb w8 v8 L8 rfl hzm32 HW8.out.at_ (by omega) (by omega) (Lib.hid (by omega)))
      clear h81 h82 h83 HWc HW7 HR7 p0 hL8 hR8
      go_wp2_with fail
      refine HBX.out.mono ?_
      rintro e w9 ⟨rfl,v9,h91,h92,h93⟩
      have HW9:=Lib.hid (HW8.out.step h91 h92 h93)
      have HF:Hid (L++xL na nb (l.take (i+1))=L8++low zb zm):=Lib.hid (by rw [HST.out,HTE.out,← HL8.out,← HL7.out,← HL6.out]; simp only [List.append_assoc])
      clear h91 h92 h93 HBX HW8 pA hcz
      go_wp2
      go_roundg (200000-(i+1))
      · exact ⟨i+1,by omega,by first | rfl | omega,by first | rfl | go_num,v9,Lib.hid (by rw [HF.out]; exact HW9.out)⟩
      · omega
  · have hcz : ¬ (i:Int)<(n:Int):=by omega
    obtain rfl:i=n:=by omega
    have htk:l.take i=l:=List.take_of_length_le (by rw [HLN.out]; exact Nat.le_refl _)
    rw [htk] at HWi hLi
    clear htk
    have HWc:=Lib.hid (vZ b nx cx 256 vi (L++xL na nb l) x na wr (fun w' h=>Hx.out w' (HWi.out.fp h)) HWi.out.at_ (by omega) HKna.out HC.out.fin)
    go_wp2_with fail
    refine HWc.out.mono ?_
    rintro e w6 ⟨rfl,v6,h61,h62,h63⟩
    have HW6:=Lib.hid (HWi.out.step h61 h62 h63)
    clear h61 h62 h63 HWc
    go_wp2
    go_returns
    exact ⟨rfl,v6,by rw [Jv,← List.append_assoc]; exact HW6.out⟩
end Go.Proofs.YtfkcdnaghndgfaaGreatDoor
