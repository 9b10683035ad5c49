/- BlockMade: plain: what a plan's lengths are. -/
import Derived.Test.YtfkcdnaghndgfaaGreatDoorQBO
import Derived.Test.YtfkcdnaghndgfaaGreatDoorQAC
import Derived.Test.YtfkcdnaghndgfaaGreatDoorQAK
import Derived.Test.YtfkcdnaghndgfaaGreatDoorQBJ
set_option linter.unusedVariables false
set_option linter.unusedSimpArgs false
set_option linter.unusedSectionVars false
namespace Go.Proofs.YtfkcdnaghndgfaaGreatDoor
theorem WT (l:List Nat):zk (ints l)=l:=by
 unfold zk ints
 rw [List.map_map]
 have:(Int.toNat∘fun x:Nat=>(x:Int))=id:=by funext x; simp
 rw [this,List.map_id]
theorem Ki {l:List Nat} (h1:l.length≤300) (h2 : ∀ x∈l,x≤15):yS (ints l)=true:=by
 refine Ze (by simpa [ints] using h1) (fun k hk=>?_)
 obtain ⟨x,hx,rfl⟩:=List.mem_map.1 hk
 have:=h2 x hx
 omega
theorem zgM (a b:List Nat):xL (a++b)=xL a+xL b:=by unfold xL; simp
theorem Zd : ∀ (l:List Nat),(∀ x∈l,x=0)→xL l=0
 | [],_=>rfl
 | x::l,h=>by
   have h1:=h x List.mem_cons_self
   have h2:=Zd l (fun y hy=>h y (List.mem_cons_of_mem _ hy))
   unfold xL at *
   rw [List.map_cons,List.sum_cons,h2,h1]
   rfl
theorem zex {l:List Nat} {least:Int} {n m:Nat} (h:TrimO l least n m) (hl:l.length=n) : ∀ x∈l.drop m,x=0:=by
 intro x hx
 obtain ⟨i,hi,rfl⟩:=List.getElem_of_mem hx
 rw [List.length_drop] at hi
 have:=h.zero (m+i) (by omega) (by omega)
 rw [List.getElem_drop]
 rw [List.getD_eq_getElem?_getD,List.getElem?_eq_getElem (by omega)] at this
 exact this
theorem YK {l:List Nat} {least:Int} {n m:Nat} (h:TrimO l least n m) (hl:l.length=n):xL (l.take m)=xL l:=by
 conv=>rhs; rw [← List.take_append_drop m l,zgM,Zd _ (zex h hl)]
 rfl
theorem QD (p:Int→Bool) (h0:p 0=false) (h1:p 1=true) : ∀ (m s:Nat),s<m→(ints ((List.replicate m 0).set s 1)).countP p=1
 | m+1,0,_=>by
   rw [List.replicate_succ,List.set_cons_zero]
   show (((1:Nat):Int)::ints (List.replicate m 0)).countP p=1
   rw [List.countP_cons]
   have e:(ints (List.replicate m 0)).countP p=0:=by
    rw [List.countP_eq_zero]
    intro a ha
    obtain ⟨x,hx,rfl⟩:=List.mem_map.1 ha
    rw [List.eq_of_mem_replicate hx]
    simpa using h0
   rw [e]
   simp [h1]
 | m+1,s+1,h=>by
   rw [List.replicate_succ,List.set_cons_succ]
   show (((0:Nat):Int)::ints ((List.replicate m 0).set s 1)).countP p=1
   rw [List.countP_cons,QD p h0 h1 m s (by omega)]
   simp [h0]
theorem zcB {many:List Int} {n m:Nat} {u:List Nat} {least:Int} (hn:many.length=n) (h300:n≤300) (hu:IsUsed many n u) (hm:TrimO (ofL many u 15 n) least n m) :
 (u=[]→zp (ints ((ofL many u 15 n).take m))=0)∧(u≠[]→qe (ints ((ofL many u 15 n).take m))=true):=by
 have hk:u.length≤2^15:=by have:=hu.le; omega
 have hf:=Jn hn hu 15 (by omega) (by omega) hk
 have hl:=qL many u 15 n
 have h15:=JR hn hu (L:=15) (by omega) (by omega) hk
 have ho:yS (ints ((ofL many u 15 n).take m))=true:=Ki (by rw [List.length_take]; omega) (fun x hx=>h15 x (List.mem_of_mem_take hx))
 have hw:=YK hm hl
 constructor
 · intro h0
   unfold zp
   rw [if_pos ho,WT]
   unfold jX
   rw [if_pos (by rw [hw,hf.none h0])]
 · intro hne
   rcases Nat.lt_or_ge u.length 2 with h2 | h2
   · have h1:u.length=1:=by have:=List.length_pos_iff.2 hne; omega
     obtain ⟨s,rfl⟩:=List.length_eq_one_iff.1 h1
     have hs:s<n:=((hu.mem s).1 (by simp)).1
     have hone:=hf.one rfl
     have hsm:s<m:=by
      rcases Nat.lt_or_ge s m with h | h
      · exact h
      · have:=hm.zero s h hs
        simp at hone
        rw [List.getD_eq_getElem?_getD] at this
        omega
     have e:(ofL many [s] 15 n).take m=(List.replicate m 0).set s 1:=by
      have hml:=hm.le
      have e0:ofL many [s] 15 n=(List.replicate n 0).set s 1:=by simp [ofL]
      rw [e0]
      rw [List.take_set,List.take_replicate,Nat.min_eq_left hml]
     unfold qe JD YG
     rw [e,QD _ (by simp) (by simp) m s hsm,QD _ (by simp) (by simp) m s hsm]
     simp
   · unfold qe zp
     rw [if_pos ho,WT]
     unfold jX
     rw [hw,hf.two h2]
     simp
theorem zeM (p:List Nat×List Nat) (t:Tok) (h:1≤p.1.getD 256 0) (hl:p.1.length=286) (ht:zo t):1≤(ju p t).1.getD 256 0:=by
 show 1≤(xr p.1 (xx t)).getD 256 0
 rw [qv _ _ _ (by rw [hl]; exact ve ht)]
 omega
theorem Xt (l:List Tok) (hok : ∀ t∈l,zo t) : ∀ i,i≤l.length→1≤(zh (l.take i)).1.getD 256 0
 | 0,_=>by
   rw [List.take_zero,kI]
   show 1≤(((List.replicate 286 0).set 256 1)).getD 256 0
   rw [List.getD_eq_getElem?_getD,List.getElem?_set_self (by rw [List.length_replicate]; omega)]
   exact Nat.le_refl _
 | i+1,h=>by
   rw [List.take_succ_eq_append_getElem (by omega),jO]
   exact zeM _ _ (Xt l hok i (by omega)) (xt l i (by omega)).la (hok _ (List.getElem_mem _))
theorem Vv : ∀ (i:Nat) (l:List StpD),i≤l.length→(∀ s∈l,s.sym<19) → ∀ s∈l.take i,1≤(zE (l.take i)).getD s.sym 0
 | 0,l,_,_,s,hs=>by simp at hs
 | i+1,l,h,hsy,s,hs=>by
   have hil:i<l.length:=by omega
   have hl:=(qC l i (by omega)).1
   have h19:=hsy l[i] (List.getElem_mem hil)
   rw [List.take_succ_eq_append_getElem hil] at hs ⊢
   rw [Jb]
   unfold YB
   rw [if_pos (by omega),qv _ _ _ (by omega)]
   rcases List.mem_append.1 hs with h1 | h1
   · have:=Vv i l (by omega) hsy s h1
     omega
   · rw [List.mem_singleton] at h1
     rw [h1,if_pos rfl]
     omega
theorem zdh (c:List Nat) (hl:c.length=19) (j:Nat):c.getD j 0≤(ja c).getD j 0:=by
 have hs : ∀ i x,i<19→c.getD i 0≤x→c.getD j 0≤(c.set i x).getD j 0:=fun i x hi hx=>by
  by_cases h:i=j
  · subst h
    rw [List.getD_eq_getElem?_getD (l:=c.set i x),List.getElem?_set_self (by omega)]
    exact hx
  · rw [List.getD_eq_getElem?_getD (l:=c.set i x),List.getElem?_set_ne h,List.getD_eq_getElem?_getD]
    exact Nat.le_refl _
 unfold ja
 split
 · rename_i h1
   split
   · rename_i h0
     exact hs 0 1 (by omega) (by omega)
   · rename_i h0
     refine hs 1 1 (by omega) ?_
     rcases Nat.eq_zero_or_pos (c.getD 1 0) with h2 | h2
     · omega
     · exfalso
       have m0:0∈xp (ints c) 19:=(xM _ _ _).2 ⟨by omega,by rw [ye]; omega⟩
       have m1:1∈xp (ints c) 19:=(xM _ _ _).2 ⟨by omega,by rw [ye]; omega⟩
       obtain ⟨s,hs⟩:=List.length_eq_one_iff.1 h1
       rw [hs] at m0 m1
       simp at m0 m1
       omega
 · exact Nat.le_refl _
theorem zcT {l:List Nat} {a b:Nat} (ha:a∈l) (hb:b∈l) (h:a≠b):2≤l.length:=by
 match l,ha,hb with
 | [x],ha,hb=>simp at ha hb; omega
 | x::y::r,_,_=>simp
theorem zf2 (c:List Nat) (hl:c.length=19) (j:Nat) (hj:j<19) (h:1≤c.getD j 0):2≤(xp (ints (ja c)) 19).length:=by
 have hin : ∀ i,i<19→1≤(ja c).getD i 0→i∈xp (ints (ja c)) 19:=fun i hi hx=>(xM _ _ _).2 ⟨hi,by rw [ye]; omega⟩
 have hmj:=hin j hj (Nat.le_trans h (zdh c hl j))
 by_cases h1:(xp (ints c) 19).length=1
 · obtain ⟨s,hs⟩:=List.length_eq_one_iff.1 h1
   have hsj:j=s:=by
    have:j∈xp (ints c) 19:=(xM _ _ _).2 ⟨hj,by rw [ye]; omega⟩
    rw [hs] at this
    simpa using this
   by_cases h0:c.getD 0 0=0
   · have e:ja c=c.set 0 1:=by unfold ja; rw [if_pos h1,if_pos h0]
     refine zcT hmj (hin 0 (by omega) ?_) (fun e2=>?_)
     · rw [e,List.getD_eq_getElem?_getD,List.getElem?_set_self (by omega)]; exact Nat.le_refl _
     · rw [e2] at h; omega
   · have e:ja c=c.set 1 1:=by unfold ja; rw [if_pos h1,if_neg h0]
     have hj0:j=0:=by
      have:0∈xp (ints c) 19:=(xM _ _ _).2 ⟨by omega,by rw [ye]; omega⟩
      rw [hs] at this
      simp at this
      omega
     refine zcT hmj (hin 1 (by omega) ?_) (by omega)
     rw [e,List.getD_eq_getElem?_getD,List.getElem?_set_self (by omega)]; exact Nat.le_refl _
 · have e:ja c=c:=by unfold ja; rw [if_neg h1]
   rw [e] at hmj ⊢
   have:=List.length_pos_of_mem hmj
   omega
structure MadeL (l:List Tok) (lits backs:List Nat) (steps:List StpD) (lens:List Nat):Prop where
 okA:qe (ints lits)=true
 okB:zp (ints backs)=0∨qe (ints backs)=true
 okC:zp (ints lens)=1
 sy : ∀ s∈steps,s.sym<19∧1≤lens.getD s.sym 0∧lens.getD s.sym 0≤7
 dec:Ws [] steps∧zhZ steps=lits++backs
 cost : ∀ u,IsUsed (ints (zh l).1) 286 u→2≤u.length→u.length≤8→qr (ints (zh l).1) lits lits.length≤qr (ints (zh l).1) (ofL (ints (zh l).1) u 7 286) 286
theorem zdf {many:List Int} {n:Nat} {u:List Nat} (hu:IsUsed many n u) : ∀ (d L:Nat),u.length≤2^L→qr many (ofL many u (L+d) n) n≤qr many (ofL many u L n) n
 | 0,L,_=>Nat.le_refl _
 | d+1,L,hk=>by
   have h1:=zdf hu d L hk
   have h2:=zdM hu (L+d) (Nat.le_trans hk (Nat.pow_le_pow_right (by omega) (by omega)))
   exact Nat.le_trans h2 h1
theorem ze5 (many:List Int) (l:List Nat) {least:Int} {n m:Nat} (h:TrimO l least n m) (hl:l.length=n):qr many (l.take m) m=qr many l n:=by
 have key : ∀ k,m+k≤n→qr many l (m+k)=qr many l m:=by
  intro k
  induction k with
  | zero=>intro _; rfl
  | succ k ih =>
    intro hk
    have hz:=h.zero (m+k) (by omega) (by omega)
    have:=ih (by omega)
    unfold qr at *
    rw [← Nat.add_assoc,yd,this,hz]
    simp
 have e:qr many (l.take m) m=qr many l m:=by
  unfold qr
  refine xU (fun i hi=>?_)
  have e2:(l.take m).getD i 0=l.getD i 0:=by rw [List.getD_eq_getElem?_getD,List.getElem?_take,if_pos hi,List.getD_eq_getElem?_getD]
  rw [e2]
 have hm:=h.le
 have:=key (n-m) (by omega)
 rw [show m+(n-m)=n by omega] at this
 rw [e,this]
theorem MadeO.law {l:List Tok} {lits backs lens:List Nat} {steps:List StpD} (h:MadeO l lits backs steps lens) (hl:(zh l).1.length=286∧(zh l).2.length=30) (hok : ∀ t∈l,zo t):MadeL l lits backs steps lens:=by
 obtain ⟨m1,m1',m2,m2',x15,y15,hsy,hl7,hl19,hsl⟩:=h.bd hl
 have hs19:(zE steps).length=19:=by have:=(qC steps steps.length (Nat.le_refl _)).1; rwa [List.take_length] at this
 have i1:(ints (zh l).1).length=286:=by simp [ints,hl.1]
 have i2:(ints (zh l).2).length=30:=by simp [ints,hl.2]
 have i3:(ints (ja (zE steps))).length=19:=by simp [ints,XF,hs19]
 obtain ⟨u1,m1x,hu1,ht1,e1⟩:=h.a
 obtain ⟨u2,m2x,hu2,ht2,e2⟩:=h.b
 obtain ⟨u3,hu3,e3⟩:=h.c
 have h256:1≤(zh l).1.getD 256 0:=by have:=Xt l hok l.length (Nat.le_refl _); rwa [List.take_length] at this
 have hne1:u1≠[]:=fun e=>by
  have:=(hu1.mem 256).2 ⟨by omega,by rw [ye]; omega⟩
  rw [e] at this
  simp at this
 have hcm : ∀ s∈steps,1≤(zE steps).getD s.sym 0:=fun s hs=>by
  have:=Vv steps.length steps (Nat.le_refl _) (fun s hs=>(hsy s hs).1) s (by rw [List.take_length]; exact hs)
  rwa [List.take_length] at this
 have hdec:=zcC (lits.length+backs.length) (ints (lits++backs)) (-1) [] (by simp [ints]) (fun x hx=>by
  obtain ⟨y,hy,rfl⟩:=List.mem_map.1 hx
  rcases List.mem_append.1 hy with hy | hy
  · have:=x15 y hy; omega
  · have:=y15 y hy; omega) (by simp [ints]; omega) (.inl ⟨rfl,rfl⟩)
 rw [← h.s] at hdec
 have hd2:zhZ steps=lits++backs:=by
  show steps.foldl jP []=_
  rw [hdec.2]
  exact WT _
 have hf3:=Jn i3 hu3 7 (by omega) (by omega) (by have:=hu3.le; omega)
 have hsne : ∃ s,s∈steps:=by
  cases hst:steps with
  | nil =>
    exfalso
    rw [hst] at hd2
    have:=congrArg List.length hd2
    simp [zhZ] at this
    omega
  | cons s r=>exact ⟨s,List.mem_cons_self⟩
 obtain ⟨s0,hs0⟩:=hsne
 have h2:2≤u3.length:=by rw [WA hu3]; exact zf2 _ hs19 s0.sym (hsy s0 hs0).1 (hcm s0 hs0)
 refine ⟨?_,?_,?_,?_,⟨hdec.1,hd2⟩,?_⟩
 · rw [e1]; exact (zcB i1 (by omega) hu1 ht1).2 hne1
 · rw [e2]
   have:=zcB i2 (by omega) hu2 ht2
   by_cases hu:u2=[]
   · exact .inl (this.1 hu)
   · exact .inr (this.2 hu)
 · have ho:yS (ints lens)=true:=Ki (by omega) (fun x hx=>by have:=hl7 x hx; omega)
   unfold zp
   rw [if_pos ho,WT]
   unfold jX
   rw [e3,hf3.two h2]
   simp
 · intro s hs
   obtain ⟨h1,_⟩:=hsy s hs
   refine ⟨h1,?_,ke hl7 _⟩
   have:=(hf3.iff s.sym h1).2 (by rw [ye]; have:=zdh _ hs19 s.sym; have:=hcm s hs; omega)
   rw [e3]
   exact this
 · intro u hu hu2' hu8
   obtain rfl:=hu.uniq hu1
   have hl1:=qL (ints (zh l).1) u 15 286
   have hlm:lits.length=m1x:=by rw [e1,List.length_take,hl1]; exact Nat.min_eq_left ht1.le
   rw [hlm,e1,ze5 _ _ ht1 hl1]
   exact zdf hu 8 7 (by omega)
end Go.Proofs.YtfkcdnaghndgfaaGreatDoor
namespace Go.Proofs.YtfkcdnaghndgfaaGreatDoor
open Go.RowKit
def kr (na nb:List Nat) (t:Tok):List Bool :=
 if t.long=0 then zq na t.byte
 else zq na (xx t)++(low (qq.getD ((ya t.long.toNat 29 0).getD 0) 0) (t.long.toNat-lAt.getD ((ya t.long.toNat 29 0).getD 0) 0)++(zq nb (xK t)++low (dBt (xK t)) (t.back.toNat-dAt.getD (xK t) 0)))
def xZ (na nb:List Nat):List Tok→List Bool
 | []=>zq na 256
 | t::r=>kr na nb t++xZ na nb r
structure Coded (na nb:List Nat) (l:List Tok):Prop where
 fin:na.getD 256 0≠0
 lit : ∀ t∈l,na.getD (xx t) 0≠0
 bak : ∀ t∈l,t.long≠0→nb.getD (xK t) 0≠0
structure WS (w0:World) (b:Nat) (v0:Value) (w:World) (v:Value) (L:List Bool):Prop where
 at_:WrAt w b v L (L.length/8)
 upd:Upd (zZ b v0) w0 w
 later:Later w0 v0 v
theorem WS.fp {w0 w w':World} {b:Nat} {v0 v:Value} {L:List Bool} (h:WS w0 b v0 w v L) (hU:Upd (zZ b v) w w'):Upd (zZ b v0) w0 w' :=
 h.upd.trans hU (fun k hk=>by
  rcases List.mem_cons.1 hk with rfl | hk
  · exact .inl List.mem_cons_self
  · rcases h.later.fp k hk with h1 | h1
    · exact .inl (List.mem_cons_of_mem _ h1)
    · exact .inr h1)
theorem WS.refl {w:World} {b:Nat} {v:Value} {L:List Bool} (h:WrAt w b v L (L.length/8)):WS w b v w v L:=⟨h,Upd.refl _ _,Later.refl _ _⟩
theorem WS.pure {w0 w w':World} {b:Nat} {v0 v:Value} {L:List Bool} (h:WS w0 b v0 w v L) (hU:Upd [] w w'):WS w0 b v0 w' v L :=
 ⟨h.at_.upd hU (by simp) (by simp),h.upd.trans hU (by simp),h.later⟩
theorem WS.step {w0 w w':World} {b:Nat} {v0 v v':Value} {L L':List Bool} (h:WS w0 b v0 w v L) (hW:WrAt w' b v' L' (L'.length/8)) (hU:Upd (zZ b v) w w') (hT:Later w v v'):WS w0 b v0 w' v' L' :=
 ⟨hW,h.fp hU,h.later.trans h.upd.size hT⟩
theorem jN (l:List Nat):zk (ints l)=l:=by
 unfold zk ints
 rw [List.map_map]
 have:(Int.toNat∘fun x:Nat=>(x:Int))=id:=by funext x; simp
 rw [this,List.map_id]
def zi6 (w:World) (b:Nat) (v:Value) (L:List Bool) (e:Ending) (w':World):Prop:=e = .returned (.bool true) ∧ ∃ v',WrAt w' b v' L (L.length/8)∧Upd (zZ b v) w w'∧Later w v v'
theorem vO (b nx cx S:Nat) (v:Value) (L:List Bool) (x:Option Addr) (na:List Nat) (w:World) (hX : ∀ w',Upd (zZ b v) w w'→IntsIn w' x nx (ints na)) (hW:WrAt w b v L (L.length/8)) (hL:L.length≤1000000000000)
 (hk3:zp (ints na)≠3) (h0:na.getD S 0≠0) :
 Calls Tryz.prog 152 #[.pointer (some ⟨b,0,none⟩),.slice x nx cx,.slice (some ⟨w.heap.size,0,none⟩) 1 1] (w.alloc (.cells #[.int .i64 (S:Nat)] 3)) (zi6 w b v (L++zq na S)):=by
 have hlen:nx=(ints na).length:=(hX w (Upd.refl _ _)).len.symm
 subst hlen
 have hUa:Upd [] w (w.alloc (.cells #[.int .i64 (S:Nat)] 3)):=(Upd.refl [] w).alloc _
 have hWa:=hW.upd hUa (by simp) (by simp)
 have hB:=Blk.new w [.int .i64 (S:Nat)] 3
 have hS:S<na.length:=by
  rcases Nat.lt_or_ge S na.length with h | h
  · exact h
  · rw [List.getD_eq_getElem?_getD,List.getElem?_eq_none h] at h0
    exact absurd rfl h0
 have hS64:(S:Int)≤9223372036854775807:=by
  have h1:=(zN (xC hk3).1).1
  simp [ints] at h1
  omega
 have hne:w.heap.size∉zZ b v:=fun hm=>by
  rcases List.mem_cons.1 hm with h | h
  · have:=hW.blk.lt; omega
  · have:=hW.row.lt w.heap.size (by simpa using h); omega
 have h:=zed b v L x (some ⟨w.heap.size,0,none⟩) cx 1 (ints na) [(S:Int)] (w.alloc (.cells #[.int .i64 (S:Nat)] 3)) (by simp)
  (fun w' hU=>hX w' ((hUa.mono (by simp)).then hU)) (fun w' hU=>IntsIn.of_blk (l:=[(S:Int)]) (hB.upd hU hne) (fun y hy=>by rw [List.mem_singleton] at hy; rw [hy]; omega)) hWa hL hk3
  (by
   rw [jN]
   simp only [Kd,List.all_cons,List.all_nil,Bool.and_true,zfW,Int.toNat_natCast]
   simp only [Bool.and_eq_true,decide_eq_true_eq]
   exact ⟨⟨by omega,by omega⟩,h0⟩)
 refine h.mono (fun e w' h2=>?_)
 obtain ⟨he,v',h3,h4,h5⟩:=h2
 rw [jN] at h3
 have e2:yL na [(S:Int)]=zq na S:=by simp [yL]
 rw [e2] at h3
 exact ⟨he,v',h3,(hUa.mono (by simp)).then h4,by
  rcases h5 with h5 | ⟨g,h6,h7⟩
  · exact .inl h5
  · exact .inr ⟨g,h6,Nat.le_trans hUa.size h7⟩⟩
end Go.Proofs.YtfkcdnaghndgfaaGreatDoor
