/- BlockMade: plain: what a plan's lengths are. -/
import Derived.Test.YtfkcdnaghndgfaaGreatDoorQBP
import Derived.Test.YtfkcdnaghndgfaaGreatDoorQAC
import Derived.Test.YtfkcdnaghndgfaaGreatDoorQAG
import Derived.Test.YtfkcdnaghndgfaaGreatDoorQBK
set_option linter.unusedVariables false
set_option linter.unusedSimpArgs false
set_option linter.unusedSectionVars false
namespace Go.Proofs.YtfkcdnaghndgfaaGreatDoor
theorem zaT (l:List Nat):zf (ints l)=l:=by
 unfold zf ints
 rw [List.map_map]
 have:(Int.toNat∘fun x:Nat=>(x:Int))=id:=by funext x; simp
 rw [this,List.map_id]
theorem KH {l:List Nat} (h1:l.length≤300) (h2 : ∀ x∈l,x≤15):yE (ints l)=true:=by
 refine kw (by simpa [ints] using h1) (fun k hk=>?_)
 obtain ⟨x,hx,rfl⟩:=List.mem_map.1 hk
 have:=h2 x hx
 omega
theorem zfL (a b:List Nat):yy (a++b)=yy a+yy b:=by unfold yy; simp
theorem QH : ∀ (l:List Nat),(∀ x∈l,x=0)→yy l=0
 | [],_=>rfl
 | x::l,h=>by
   have h1:=h x List.mem_cons_self
   have h2:=QH l (fun y hy=>h y (List.mem_cons_of_mem _ hy))
   unfold yy at *
   rw [List.map_cons,List.sum_cons,h2,h1]
   rfl
theorem zek {l:List Nat} {least:Int} {n m:Nat} (h:TrimO l least n m) (hl:l.length=n) : ∀ x∈l.drop m,x=0:=by
 intro x hx
 obtain ⟨i,hi,rfl⟩:=List.getElem_of_mem hx
 rw [List.length_drop] at hi
 have:=h.zero (m+i) (by omega) (by omega)
 rw [List.getElem_drop]
 rw [List.getD_eq_getElem?_getD,List.getElem?_eq_getElem (by omega)] at this
 exact this
theorem YZ {l:List Nat} {least:Int} {n m:Nat} (h:TrimO l least n m) (hl:l.length=n):yy (l.take m)=yy l:=by
 conv=>rhs; rw [← List.take_append_drop m l,zfL,QH _ (zek h hl)]
 rfl
theorem Za (p:Int→Bool) (h0:p 0=false) (h1:p 1=true) : ∀ (m s:Nat),s<m→(ints ((List.replicate m 0).set s 1)).countP p=1
 | m+1,0,_=>by
   rw [List.replicate_succ,List.set_cons_zero]
   show (((1:Nat):Int)::ints (List.replicate m 0)).countP p=1
   rw [List.countP_cons]
   have e:(ints (List.replicate m 0)).countP p=0:=by
    rw [List.countP_eq_zero]
    intro a ha
    obtain ⟨x,hx,rfl⟩:=List.mem_map.1 ha
    rw [List.eq_of_mem_replicate hx]
    simpa using h0
   rw [e]
   simp [h1]
 | m+1,s+1,h=>by
   rw [List.replicate_succ,List.set_cons_succ]
   show (((0:Nat):Int)::ints ((List.replicate m 0).set s 1)).countP p=1
   rw [List.countP_cons,Za p h0 h1 m s (by omega)]
   simp [h0]
theorem zdf {many:List Int} {n m:Nat} {u:List Nat} {least:Int} (hn:many.length=n) (h300:n≤300) (hu:IsUsed many n u) (hm:TrimO (ofL many u 15 n) least n m) :
 (u=[]→zi (ints ((ofL many u 15 n).take m))=0)∧(u≠[]→yU (ints ((ofL many u 15 n).take m))=true):=by
 have hk:u.length≤2^15:=by have:=hu.le; omega
 have hf:=Jf hn hu 15 (by omega) (by omega) hk
 have hl:=qH many u 15 n
 have h15:=JO hn hu (L:=15) (by omega) (by omega) hk
 have ho:yE (ints ((ofL many u 15 n).take m))=true:=KH (by rw [List.length_take]; omega) (fun x hx=>h15 x (List.mem_of_mem_take hx))
 have hw:=YZ hm hl
 constructor
 · intro h0
   unfold zi
   rw [if_pos ho,zaT]
   unfold jb
   rw [if_pos (by rw [hw,hf.none h0])]
 · intro hne
   rcases Nat.lt_or_ge u.length 2 with h2 | h2
   · have h1:u.length=1:=by have:=List.length_pos_iff.2 hne; omega
     obtain ⟨s,rfl⟩:=List.length_eq_one_iff.1 h1
     have hs:s<n:=((hu.mem s).1 (by simp)).1
     have hone:=hf.one rfl
     have hsm:s<m:=by
      rcases Nat.lt_or_ge s m with h | h
      · exact h
      · have:=hm.zero s h hs
        simp at hone
        rw [List.getD_eq_getElem?_getD] at this
        omega
     have e:(ofL many [s] 15 n).take m=(List.replicate m 0).set s 1:=by
      have hml:=hm.le
      have e0:ofL many [s] 15 n=(List.replicate n 0).set s 1:=by simp [ofL]
      rw [e0]
      rw [List.take_set,List.take_replicate,Nat.min_eq_left hml]
     unfold yU vw zcJ
     rw [e,Za _ (by simp) (by simp) m s hsm,Za _ (by simp) (by simp) m s hsm]
     simp
   · unfold yU zi
     rw [if_pos ho,zaT]
     unfold jb
     rw [hw,hf.two h2]
     simp
theorem ze7 (p:List Nat×List Nat) (t:Tok) (h:1≤p.1.getD 256 0) (hl:p.1.length=286) (ht:zr t):1≤(jE p t).1.getD 256 0:=by
 show 1≤(xu p.1 (xw t)).getD 256 0
 rw [qE _ _ _ (by rw [hl]; exact kJ ht)]
 omega
theorem Yp (l:List Tok) (hok : ∀ t∈l,zr t) : ∀ i,i≤l.length→1≤(zk (l.take i)).1.getD 256 0
 | 0,_=>by
   rw [List.take_zero,kt]
   show 1≤(((List.replicate 286 0).set 256 1)).getD 256 0
   rw [List.getD_eq_getElem?_getD,List.getElem?_set_self (by rw [List.length_replicate]; omega)]
   exact Nat.le_refl _
 | i+1,h=>by
   rw [List.take_succ_eq_append_getElem (by omega),jw]
   exact ze7 _ _ (Yp l hok i (by omega)) (xt l i (by omega)).la (hok _ (List.getElem_mem _))
theorem Vx : ∀ (i:Nat) (l:List StpD),i≤l.length→(∀ s∈l,s.sym<19) → ∀ s∈l.take i,1≤(zB (l.take i)).getD s.sym 0
 | 0,l,_,_,s,hs=>by simp at hs
 | i+1,l,h,hsy,s,hs=>by
   have hil:i<l.length:=by omega
   have hl:=(qy l i (by omega)).1
   have h19:=hsy l[i] (List.getElem_mem hil)
   rw [List.take_succ_eq_append_getElem hil] at hs ⊢
   rw [vS]
   unfold YJ
   rw [if_pos (by omega),qE _ _ _ (by omega)]
   rcases List.mem_append.1 hs with h1 | h1
   · have:=Vx i l (by omega) hsy s h1
     omega
   · rw [List.mem_singleton] at h1
     rw [h1,if_pos rfl]
     omega
theorem zc9 (c:List Nat) (hl:c.length=19) (j:Nat):c.getD j 0≤(qZ c).getD j 0:=by
 have hs : ∀ i x,i<19→c.getD i 0≤x→c.getD j 0≤(c.set i x).getD j 0:=fun i x hi hx=>by
  by_cases h:i=j
  · subst h
    rw [List.getD_eq_getElem?_getD (l:=c.set i x),List.getElem?_set_self (by omega)]
    exact hx
  · rw [List.getD_eq_getElem?_getD (l:=c.set i x),List.getElem?_set_ne h,List.getD_eq_getElem?_getD]
    exact Nat.le_refl _
 unfold qZ
 split
 · rename_i h1
   split
   · rename_i h0
     exact hs 0 1 (by omega) (by omega)
   · rename_i h0
     refine hs 1 1 (by omega) ?_
     rcases Nat.eq_zero_or_pos (c.getD 1 0) with h2 | h2
     · omega
     · exfalso
       have m0:0∈xr (ints c) 19:=(xP _ _ _).2 ⟨by omega,by rw [yf]; omega⟩
       have m1:1∈xr (ints c) 19:=(xP _ _ _).2 ⟨by omega,by rw [yf]; omega⟩
       obtain ⟨s,hs⟩:=List.length_eq_one_iff.1 h1
       rw [hs] at m0 m1
       simp at m0 m1
       omega
 · exact Nat.le_refl _
theorem zc3 {l:List Nat} {a b:Nat} (ha:a∈l) (hb:b∈l) (h:a≠b):2≤l.length:=by
 match l,ha,hb with
 | [x],ha,hb=>simp at ha hb; omega
 | x::y::r,_,_=>simp
theorem zgY (c:List Nat) (hl:c.length=19) (j:Nat) (hj:j<19) (h:1≤c.getD j 0):2≤(xr (ints (qZ c)) 19).length:=by
 have hin : ∀ i,i<19→1≤(qZ c).getD i 0→i∈xr (ints (qZ c)) 19:=fun i hi hx=>(xP _ _ _).2 ⟨hi,by rw [yf]; omega⟩
 have hmj:=hin j hj (Nat.le_trans h (zc9 c hl j))
 by_cases h1:(xr (ints c) 19).length=1
 · obtain ⟨s,hs⟩:=List.length_eq_one_iff.1 h1
   have hsj:j=s:=by
    have:j∈xr (ints c) 19:=(xP _ _ _).2 ⟨hj,by rw [yf]; omega⟩
    rw [hs] at this
    simpa using this
   by_cases h0:c.getD 0 0=0
   · have e:qZ c=c.set 0 1:=by unfold qZ; rw [if_pos h1,if_pos h0]
     refine zc3 hmj (hin 0 (by omega) ?_) (fun e2=>?_)
     · rw [e,List.getD_eq_getElem?_getD,List.getElem?_set_self (by omega)]; exact Nat.le_refl _
     · rw [e2] at h; omega
   · have e:qZ c=c.set 1 1:=by unfold qZ; rw [if_pos h1,if_neg h0]
     have hj0:j=0:=by
      have:0∈xr (ints c) 19:=(xP _ _ _).2 ⟨by omega,by rw [yf]; omega⟩
      rw [hs] at this
      simp at this
      omega
     refine zc3 hmj (hin 1 (by omega) ?_) (by omega)
     rw [e,List.getD_eq_getElem?_getD,List.getElem?_set_self (by omega)]; exact Nat.le_refl _
 · have e:qZ c=c:=by unfold qZ; rw [if_neg h1]
   rw [e] at hmj ⊢
   have:=List.length_pos_of_mem hmj
   omega
structure MadeL (l:List Tok) (lits backs:List Nat) (steps:List StpD) (lens:List Nat):Prop where
 okA:yU (ints lits)=true
 okB:zi (ints backs)=0∨yU (ints backs)=true
 okC:zi (ints lens)=1
 sy : ∀ s∈steps,s.sym<19∧1≤lens.getD s.sym 0∧lens.getD s.sym 0≤7
 dec:WJ [] steps∧zhU steps=lits++backs
 cost : ∀ u,IsUsed (ints (zk l).1) 286 u→2≤u.length→u.length≤8→qo (ints (zk l).1) lits lits.length≤qo (ints (zk l).1) (ofL (ints (zk l).1) u 7 286) 286
theorem zdr {many:List Int} {n:Nat} {u:List Nat} (hu:IsUsed many n u) : ∀ (d L:Nat),u.length≤2^L→qo many (ofL many u (L+d) n) n≤qo many (ofL many u L n) n
 | 0,L,_=>Nat.le_refl _
 | d+1,L,hk=>by
   have h1:=zdr hu d L hk
   have h2:=zdS hu (L+d) (Nat.le_trans hk (Nat.pow_le_pow_right (by omega) (by omega)))
   exact Nat.le_trans h2 h1
theorem zeO (many:List Int) (l:List Nat) {least:Int} {n m:Nat} (h:TrimO l least n m) (hl:l.length=n):qo many (l.take m) m=qo many l n:=by
 have key : ∀ k,m+k≤n→qo many l (m+k)=qo many l m:=by
  intro k
  induction k with
  | zero=>intro _; rfl
  | succ k ih =>
    intro hk
    have hz:=h.zero (m+k) (by omega) (by omega)
    have:=ih (by omega)
    unfold qo at *
    rw [← Nat.add_assoc,ye,this,hz]
    simp
 have e:qo many (l.take m) m=qo many l m:=by
  unfold qo
  refine xZ (fun i hi=>?_)
  have e2:(l.take m).getD i 0=l.getD i 0:=by rw [List.getD_eq_getElem?_getD,List.getElem?_take,if_pos hi,List.getD_eq_getElem?_getD]
  rw [e2]
 have hm:=h.le
 have:=key (n-m) (by omega)
 rw [show m+(n-m)=n by omega] at this
 rw [e,this]
theorem MadeO.law {l:List Tok} {lits backs lens:List Nat} {steps:List StpD} (h:MadeO l lits backs steps lens) (hl:(zk l).1.length=286∧(zk l).2.length=30) (hok : ∀ t∈l,zr t):MadeL l lits backs steps lens:=by
 obtain ⟨m1,m1',m2,m2',x15,y15,hsy,hl7,hl19,hsl⟩:=h.bd hl
 have hs19:(zB steps).length=19:=by have:=(qy steps steps.length (Nat.le_refl _)).1; rwa [List.take_length] at this
 have i1:(ints (zk l).1).length=286:=by simp [ints,hl.1]
 have i2:(ints (zk l).2).length=30:=by simp [ints,hl.2]
 have i3:(ints (qZ (zB steps))).length=19:=by simp [ints,Xw,hs19]
 obtain ⟨u1,m1x,hu1,ht1,e1⟩:=h.a
 obtain ⟨u2,m2x,hu2,ht2,e2⟩:=h.b
 obtain ⟨u3,hu3,e3⟩:=h.c
 have h256:1≤(zk l).1.getD 256 0:=by have:=Yp l hok l.length (Nat.le_refl _); rwa [List.take_length] at this
 have hne1:u1≠[]:=fun e=>by
  have:=(hu1.mem 256).2 ⟨by omega,by rw [yf]; omega⟩
  rw [e] at this
  simp at this
 have hcm : ∀ s∈steps,1≤(zB steps).getD s.sym 0:=fun s hs=>by
  have:=Vx steps.length steps (Nat.le_refl _) (fun s hs=>(hsy s hs).1) s (by rw [List.take_length]; exact hs)
  rwa [List.take_length] at this
 have hdec:=zds (lits.length+backs.length) (ints (lits++backs)) (-1) [] (by simp [ints]) (fun x hx=>by
  obtain ⟨y,hy,rfl⟩:=List.mem_map.1 hx
  rcases List.mem_append.1 hy with hy | hy
  · have:=x15 y hy; omega
  · have:=y15 y hy; omega) (by simp [ints]; omega) (.inl ⟨rfl,rfl⟩)
 rw [← h.s] at hdec
 have hd2:zhU steps=lits++backs:=by
  show steps.foldl jR []=_
  rw [hdec.2]
  exact zaT _
 have hf3:=Jf i3 hu3 7 (by omega) (by omega) (by have:=hu3.le; omega)
 have hsne : ∃ s,s∈steps:=by
  cases hst:steps with
  | nil =>
    exfalso
    rw [hst] at hd2
    have:=congrArg List.length hd2
    simp [zhU] at this
    omega
  | cons s r=>exact ⟨s,List.mem_cons_self⟩
 obtain ⟨s0,hs0⟩:=hsne
 have h2:2≤u3.length:=by rw [zai hu3]; exact zgY _ hs19 s0.sym (hsy s0 hs0).1 (hcm s0 hs0)
 refine ⟨?_,?_,?_,?_,⟨hdec.1,hd2⟩,?_⟩
 · rw [e1]; exact (zdf i1 (by omega) hu1 ht1).2 hne1
 · rw [e2]
   have:=zdf i2 (by omega) hu2 ht2
   by_cases hu:u2=[]
   · exact .inl (this.1 hu)
   · exact .inr (this.2 hu)
 · have ho:yE (ints lens)=true:=KH (by omega) (fun x hx=>by have:=hl7 x hx; omega)
   unfold zi
   rw [if_pos ho,zaT]
   unfold jb
   rw [e3,hf3.two h2]
   simp
 · intro s hs
   obtain ⟨h1,_⟩:=hsy s hs
   refine ⟨h1,?_,jV hl7 _⟩
   have:=(hf3.iff s.sym h1).2 (by rw [yf]; have:=zc9 _ hs19 s.sym; have:=hcm s hs; omega)
   rw [e3]
   exact this
 · intro u hu hu2' hu8
   obtain rfl:=hu.uniq hu1
   have hl1:=qH (ints (zk l).1) u 15 286
   have hlm:lits.length=m1x:=by rw [e1,List.length_take,hl1]; exact Nat.min_eq_left ht1.le
   rw [hlm,e1,zeO _ _ ht1 hl1]
   exact zdr hu 8 7 (by omega)
end Go.Proofs.YtfkcdnaghndgfaaGreatDoor
namespace Go.Proofs.YtfkcdnaghndgfaaGreatDoor
open Go.RowKit
def ki (na nb:List Nat) (t:Tok):List Bool :=
 if t.long=0 then zs na t.byte
 else zs na (xw t)++(low (yO.getD ((zF t.long.toNat 29 0).getD 0) 0) (t.long.toNat-lAt.getD ((zF t.long.toNat 29 0).getD 0) 0)++(zs nb (xT t)++low (dBt (xT t)) (t.back.toNat-dAt.getD (xT t) 0)))
def qh (na nb:List Nat):List Tok→List Bool
 | []=>zs na 256
 | t::r=>ki na nb t++qh na nb r
structure Coded (na nb:List Nat) (l:List Tok):Prop where
 fin:na.getD 256 0≠0
 lit : ∀ t∈l,na.getD (xw t) 0≠0
 bak : ∀ t∈l,t.long≠0→nb.getD (xT t) 0≠0
structure WS (w0:World) (b:Nat) (v0:Value) (w:World) (v:Value) (L:List Bool):Prop where
 at_:WrAt w b v L (L.length/8)
 upd:Upd (ya b v0) w0 w
 later:Later w0 v0 v
theorem WS.fp {w0 w w':World} {b:Nat} {v0 v:Value} {L:List Bool} (h:WS w0 b v0 w v L) (hU:Upd (ya b v) w w'):Upd (ya b v0) w0 w' :=
 h.upd.trans hU (fun k hk=>by
  rcases List.mem_cons.1 hk with rfl | hk
  · exact .inl List.mem_cons_self
  · rcases h.later.fp k hk with h1 | h1
    · exact .inl (List.mem_cons_of_mem _ h1)
    · exact .inr h1)
theorem WS.refl {w:World} {b:Nat} {v:Value} {L:List Bool} (h:WrAt w b v L (L.length/8)):WS w b v w v L:=⟨h,Upd.refl _ _,Later.refl _ _⟩
theorem WS.pure {w0 w w':World} {b:Nat} {v0 v:Value} {L:List Bool} (h:WS w0 b v0 w v L) (hU:Upd [] w w'):WS w0 b v0 w' v L :=
 ⟨h.at_.upd hU (by simp) (by simp),h.upd.trans hU (by simp),h.later⟩
theorem WS.step {w0 w w':World} {b:Nat} {v0 v v':Value} {L L':List Bool} (h:WS w0 b v0 w v L) (hW:WrAt w' b v' L' (L'.length/8)) (hU:Upd (ya b v) w w') (hT:Later w v v'):WS w0 b v0 w' v' L' :=
 ⟨hW,h.fp hU,h.later.trans h.upd.size hT⟩
theorem jC (l:List Nat):zf (ints l)=l:=by
 unfold zf ints
 rw [List.map_map]
 have:(Int.toNat∘fun x:Nat=>(x:Int))=id:=by funext x; simp
 rw [this,List.map_id]
def zjl (w:World) (b:Nat) (v:Value) (L:List Bool) (e:Ending) (w':World):Prop:=e = .returned (.bool true) ∧ ∃ v',WrAt w' b v' L (L.length/8)∧Upd (ya b v) w w'∧Later w v v'
theorem vT (b nx cx S:Nat) (v:Value) (L:List Bool) (x:Option Addr) (na:List Nat) (w:World) (hX : ∀ w',Upd (ya b v) w w'→IntsIn w' x nx (ints na)) (hW:WrAt w b v L (L.length/8)) (hL:L.length≤1000000000000)
 (hk3:zi (ints na)≠3) (h0:na.getD S 0≠0) :
 Calls Tryz.prog 152 #[.pointer (some ⟨b,0,none⟩),.slice x nx cx,.slice (some ⟨w.heap.size,0,none⟩) 1 1] (w.alloc (.cells #[.int .i64 (S:Nat)] 3)) (zjl w b v (L++zs na S)):=by
 have hlen:nx=(ints na).length:=(hX w (Upd.refl _ _)).len.symm
 subst hlen
 have hUa:Upd [] w (w.alloc (.cells #[.int .i64 (S:Nat)] 3)):=(Upd.refl [] w).alloc _
 have hWa:=hW.upd hUa (by simp) (by simp)
 have hB:=Blk.new w [.int .i64 (S:Nat)] 3
 have hS:S<na.length:=by
  rcases Nat.lt_or_ge S na.length with h | h
  · exact h
  · rw [List.getD_eq_getElem?_getD,List.getElem?_eq_none h] at h0
    exact absurd rfl h0
 have hS64:(S:Int)≤9223372036854775807:=by
  have h1:=(zH (xF hk3).1).1
  simp [ints] at h1
  omega
 have hne:w.heap.size∉ya b v:=fun hm=>by
  rcases List.mem_cons.1 hm with h | h
  · have:=hW.blk.lt; omega
  · have:=hW.row.lt w.heap.size (by simpa using h); omega
 have h:=zdT b v L x (some ⟨w.heap.size,0,none⟩) cx 1 (ints na) [(S:Int)] (w.alloc (.cells #[.int .i64 (S:Nat)] 3)) (by simp)
  (fun w' hU=>hX w' ((hUa.mono (by simp)).then hU)) (fun w' hU=>IntsIn.of_blk (l:=[(S:Int)]) (hB.upd hU hne) (fun y hy=>by rw [List.mem_singleton] at hy; rw [hy]; omega)) hWa hL hk3
  (by
   rw [jC]
   simp only [Kk,List.all_cons,List.all_nil,Bool.and_true,zgX,Int.toNat_natCast]
   simp only [Bool.and_eq_true,decide_eq_true_eq]
   exact ⟨⟨by omega,by omega⟩,h0⟩)
 refine h.mono (fun e w' h2=>?_)
 obtain ⟨he,v',h3,h4,h5⟩:=h2
 rw [jC] at h3
 have e2:yS na [(S:Int)]=zs na S:=by simp [yS]
 rw [e2] at h3
 exact ⟨he,v',h3,(hUa.mono (by simp)).then h4,by
  rcases h5 with h5 | ⟨g,h6,h7⟩
  · exact .inl h5
  · exact .inr ⟨g,h6,Nat.le_trans hUa.size h7⟩⟩
end Go.Proofs.YtfkcdnaghndgfaaGreatDoor
