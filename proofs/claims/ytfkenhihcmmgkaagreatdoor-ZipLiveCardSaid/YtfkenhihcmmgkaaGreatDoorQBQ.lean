/- Steps of runs are read as the row that they were made of (plain). -/
import Derived.Test.YtfkenhihcmmgkaaGreatDoorQBP
set_option linter.unusedVariables false
set_option linter.unusedSimpArgs false
set_option linter.unusedSectionVars false
set_option maxRecDepth 100000
set_option maxHeartbeats 12800000
namespace Go.Proofs.YtfkenhihcmmgkaaGreatDoor
def zbd (s:Nat):Nat:=if s≤15 then 0 else if s=16 then 2 else if s=17 then 3 else 7
def Xx (s:StpD):Nat:=if s.sym=16 then 3+s.more else if s.sym=17 then 3+s.more else if s.sym=18 then 11+s.more else 1
def zkn (out:List Nat) (s:StpD):Nat:=if s.sym=16 then out.getD (out.length-1) 0 else if s.sym=17 then 0 else if s.sym=18 then 0 else s.sym
def Wk (out:List Nat) (s:StpD):List Nat:=out++List.replicate (Xx s) (zkn out s)
def zj5 (l:List StpD):List Nat:=l.foldl Wk []
structure OkS (out:List Nat) (s:StpD):Prop where
 sym:s.sym≤18
 bits:s.bits=zbd s.sym
 more:s.more<2^zbd s.sym
 some:s.sym=16→out≠[]
 room:out.length+Xx s≤400
def zg5:List Nat→List StpD→Prop
 | _,[]=>True
 | out,s::r=>OkS out s∧zg5 (Wk out s) r
theorem Jq (k:Int) : ∀ (r:List Int) (j:Nat),j≤yD k r→r.take j=List.replicate j k
 | _,0,_=>by simp
 | [],j+1,h=>by simp [yD] at h
 | x::r,j+1,h=>by
   rw [yD] at h;split at h
   · rename_i hx;rw [List.take_succ_cons,List.replicate_succ,Jq k r j (by omega),hx]
   · omega
theorem zgi : ∀ (r:List Int),(∀ x∈r,0≤x∧x≤15)→yD (-1) r=0
 | [],_=>rfl
 | x::r,h=>by
   have:=h x List.mem_cons_self;rw [yD,if_neg (by omega)]
def zkr (out:List Nat) (ah:Int):Prop:=(out=[]∧ah = -1)∨(out≠[]∧ah=((out.getD (out.length-1) 0:Nat):Int))
theorem KF (j:Nat) (k:Int):(List.replicate j k).map Int.toNat=List.replicate j k.toNat:=by simp
theorem zhc (r:List Int) (ah:Int) (out:List Nat) (hr:r≠[]) (hb : ∀ x∈r,0≤x∧x≤15) (hl:out.length+r.length≤400) (ha:zkr out ah) :
 OkS out (yo r ah).1∧Wk out (yo r ah).1=out++(r.take (yo r ah).2).map Int.toNat:=by
 have hz:=kU 0 r;have hg:=kU ah r;unfold yo;split
 · rename_i h;have e:min (yD 0 r) 138=(xW 18 (yD 0 r)).2:=rfl;refine ⟨⟨by show 18≤18; omega,rfl,?_,fun h=>absurd (show (18:Nat)=16 from h) (by decide),?_⟩,?_⟩
   · show min (yD 0 r) 138-11<128; omega
   · show out.length+(11+(min (yD 0 r) 138-11))≤400; omega
   · show out++List.replicate (11+(min (yD 0 r) 138-11)) 0=out++(r.take (min (yD 0 r) 138)).map Int.toNat;rw [Jq 0 r _ (by omega),KF,show 11+(min (yD 0 r) 138-11)=min (yD 0 r) 138 by omega];rfl
 · split
   · rename_i h1 h2;refine ⟨⟨by show 17≤18; omega,rfl,?_,fun h=>absurd (show (17:Nat)=16 from h) (by decide),?_⟩,?_⟩
     · show min (yD 0 r) 10-3<8; omega
     · show out.length+(3+(min (yD 0 r) 10-3))≤400; omega
     · show out++List.replicate (3+(min (yD 0 r) 10-3)) 0=out++(r.take (min (yD 0 r) 10)).map Int.toNat;rw [Jq 0 r _ (by omega),KF,show 3+(min (yD 0 r) 10-3)=min (yD 0 r) 10 by omega];rfl
   · split
     · rename_i h1 h2 h3;have hne:out≠[]∧ah=((out.getD (out.length-1) 0:Nat):Int):=by
        rcases ha with ⟨_,h⟩ | h
        · rw [h,zgi r hb] at h3; omega
        · exact h
       refine ⟨⟨by show 16≤18; omega,rfl,?_,fun _=>hne.1,?_⟩,?_⟩
       · show min (yD ah r) 6-3<4; omega
       · show out.length+(3+(min (yD ah r) 6-3))≤400; omega
       · show out++List.replicate (3+(min (yD ah r) 6-3)) (out.getD (out.length-1) 0)=out++(r.take (min (yD ah r) 6)).map Int.toNat;rw [Jq ah r _ (by omega),KF,show 3+(min (yD ah r) 6-3)=min (yD ah r) 6 by omega,hne.2];simp
     · cases r with
       | nil=>exact absurd rfl hr
       | cons x r =>
         have hx:=hb x List.mem_cons_self;have hx15:x.toNat≤15:=(by omega);simp only [List.length_cons] at hl;refine ⟨⟨?_,?_,?_,fun h=>?_,?_⟩,?_⟩
         · show x.toNat≤18; omega
         · show 0=zbd x.toNat; unfold zbd; rw [if_pos hx15]
         · show 0<2^zbd x.toNat; exact Nat.two_pow_pos _
         · have:x.toNat=16:=h;omega
         · show out.length+Xx ⟨x.toNat,0,0⟩≤400;unfold Xx;dsimp only;rw [if_neg (by omega),if_neg (by omega),if_neg (by omega)];omega
         · show Wk out ⟨x.toNat,0,0⟩=out++((x::r).take 1).map Int.toNat;unfold Wk Xx zkn;dsimp only;rw [if_neg (by omega),if_neg (by omega),if_neg (by omega),if_neg (by omega),if_neg (by omega),if_neg (by omega)];rfl
theorem zc6 (out:List Nat) (r:List Int) (k:Nat) (h1:1≤k) (h2:k≤r.length) (hb : ∀ x∈r,0≤x∧x≤15) :
 r.getD (k-1) 0=(((out++(r.take k).map Int.toNat).getD ((out++(r.take k).map Int.toNat).length-1) 0:Nat):Int):=by
 have hl:(out++(r.take k).map Int.toNat).length=out.length+k:=by simp; omega
 have hk:k-1<r.length:=by omega
 rw [hl,List.getD_eq_getElem?_getD,List.getD_eq_getElem?_getD,List.getElem?_append_right (by omega),show out.length+k-1-out.length=k-1 by omega,List.getElem?_map,List.getElem?_take,if_pos (by omega),List.getElem?_eq_getElem hk];have:=hb _ (List.getElem_mem hk);simp;omega
theorem zeb : ∀ (f:Nat) (r:List Int) (ah:Int) (out:List Nat),r.length≤f→(∀ x∈r,0≤x∧x≤15)→out.length+r.length≤400→zkr out ah →
 zg5 out (ofS f r ah)∧(ofS f r ah).foldl Wk out=out++r.map Int.toNat
 | 0,r,ah,out,h,_,_,_=>by
   have:r=[]:=List.eq_nil_of_length_eq_zero (by omega);subst this;exact ⟨trivial,by simp [ofS]⟩
 | f+1,r,ah,out,h,hb,hl,ha=>by
   rw [jJ];by_cases hr:r=[]
   · rw [if_pos hr,hr];exact ⟨trivial,by simp⟩
   · rw [if_neg hr];obtain ⟨k1,k2⟩:=QL r ah hr;obtain ⟨o1,o2⟩:=zhc r ah out hr hb hl ha;have hd:(r.drop (yo r ah).2).length=r.length-(yo r ah).2:=List.length_drop;have hdl:(Wk out (yo r ah).1).length=out.length+(yo r ah).2:=(by rw [o2]; simp; omega);obtain ⟨i1,i2⟩:=zeb f (r.drop (yo r ah).2) (r.getD ((yo r ah).2-1) 0) (Wk out (yo r ah).1) (by omega) (fun x hx=>hb x (List.mem_of_mem_drop hx)) (by omega)
      (.inr ⟨fun e=>by rw [e] at hdl; simp at hdl; omega,by rw [o2]; exact zc6 out r _ k1 k2 hb⟩)
     refine ⟨⟨o1,i1⟩,?_⟩;rw [List.foldl_cons,i2,o2,List.append_assoc,← List.map_append,List.take_append_drop]
theorem zeX (L:Nat) (ks:List Nat):Jz L ks=yz ks.length (fun i=>2^(L-ks.getD i 0)):=by
 unfold Jz yz
 congr 1
 apply List.ext_getElem
 · simp
 · intro i h1 h2;have hi:i<ks.length:=(by simpa using h2);simp [List.getD_eq_getElem?_getD,hi]
def qH (many:List Int) (l:List Nat) (n:Nat):Nat:=yz n (fun i=>l.getD i 0*yy (many.getD i 0))
def zjo (many:List Int) (u ks:List Nat):Nat:=yz u.length (fun i=>yy (many.getD (u.getD i 0) 0)*ks.getD i 0)
theorem zaM {many:List Int} {n:Nat} {u:List Nat} (hu:IsUsed many n u) (L:Nat) (h2:2≤u.length) (hk:u.length≤2^L) :
 (∃ ks:List Nat,ks.length=u.length∧(∀ k∈ks,k≤L)∧Jz L ks=2^L∧qH many (ofL many u L n) n=zjo many u ks) ∧
 ∀ ks:List Nat,ks.length=u.length→(∀ k∈ks,k≤L)→Jz L ks≤2^L→qH many (ofL many u L n) n≤zjo many u ks:=by
 obtain ⟨_,c,c1,c2,c3,c4,c5,c6⟩:=Ks many u L hu.srt h2 hk;have hlt : ∀ s∈u,s<n:=fun s hs=>((hu.mem s).1 hs).1;have hc : ∀ i,i<u.length→qF many u L (u.getD i 0)=c i:=fun i hi=>by
  rw [List.getD_eq_getElem?_getD,List.getElem?_eq_getElem hi];exact c4 i hi
 have hC:qH many (ofL many u L n) n=yz u.length (fun i=>yy (many.getD (u.getD i 0) 0)*c i):=by
  unfold qH;rw [Ko (by omega)];rw [zd9 n _ u hu.nodup hlt (fun s hs hsu=>by rw [xw n _ s hs,c5 s hsu,Nat.zero_mul]),zhy];exact ql fun i hi=>by rw [xw n _ _ (hlt _ (XU hi)),hc i hi,Nat.mul_comm]
 have hkg : ∀ i,i<u.length→((List.range u.length).map c).getD i 0=c i:=fun i hi=>xw _ _ i hi;refine ⟨⟨(List.range u.length).map c,by simp,fun k hk=>?_,?_,?_⟩,fun ks h1 h2 h3=>?_⟩
 · obtain ⟨i,hi,rfl⟩:=List.mem_map.1 hk;exact (c1 i (List.mem_range.1 hi)).2
 · rw [zeX,show ((List.range u.length).map c).length=u.length by simp,← c3];exact ql fun i hi=>by rw [hkg i hi]
 · rw [hC];exact ql fun i hi=>by rw [hkg i hi]
 · rw [hC];exact c6 ks h1 h2 h3
theorem zah (L:Nat) : ∀ ks:List Nat,(∀ k∈ks,k≤L)→Jz (L+1) ks=2*Jz L ks
 | [],_=>rfl
 | k::ks,h=>by
   rw [Xt,Xt,zah L ks fun x hx=>h x (List.mem_cons_of_mem _ hx),show L+1-k=(L-k)+1 by have:=h k List.mem_cons_self; omega,Nat.pow_succ];omega
theorem zjG (many many2:List Int) (u:List Nat) (L L2 n:Nat) (h:u.length<2):ofL many u L n=ofL many2 u L2 n:=by
 rcases Nat.lt_or_ge u.length 1 with h0 | h0
 · have hu0:u=[]:=List.eq_nil_of_length_eq_zero (by omega);subst hu0;unfold ofL;rw [if_neg (by simp),if_neg (by simp)];simp [qF,jG]
 · unfold ofL;rw [if_pos (by omega),if_pos (by omega)]
theorem zeg {many:List Int} {n:Nat} {u:List Nat} (hu:IsUsed many n u) (L:Nat) (hk:u.length≤2^L) :
 qH many (ofL many u (L+1) n) n≤qH many (ofL many u L n) n:=by
 rcases Nat.lt_or_ge u.length 2 with h2 | h2
 · rw [zjG many many u (L+1) L n h2];exact Nat.le_refl _
 · obtain ⟨ks,k1,k2,k3,k4⟩:=(zaM hu L h2 hk).1;have:=(zaM hu (L+1) h2 (by rw [Nat.pow_succ]; omega)).2 ks k1 (fun k hk=>by have:=k2 k hk; omega) (by rw [zah L ks k2,k3,Nat.pow_succ]; omega);rw [k4];exact this
theorem zaT (l:List Nat):zj (ints l)=l:=by
 unfold zj ints;rw [List.map_map];have:(Int.toNat∘fun x:Nat=>(x:Int))=id:=by funext x; simp
 rw [this,List.map_id]
theorem Wt {l:List Nat} (h1:l.length≤300) (h2 : ∀ x∈l,x≤15):yM (ints l)=true:=by
 refine kw (by simpa [ints] using h1) (fun k hk=>?_);obtain ⟨x,hx,rfl⟩:=List.mem_map.1 hk;have:=h2 x hx;omega
theorem zhs (a b:List Nat):yF (a++b)=yF a+yF b:=by unfold yF; simp
theorem QK : ∀ (l:List Nat),(∀ x∈l,x=0)→yF l=0
 | [],_=>rfl
 | x::l,h=>by
   have h1:=h x List.mem_cons_self;have h2:=QK l (fun y hy=>h y (List.mem_cons_of_mem _ hy));unfold yF at *;rw [List.map_cons,List.sum_cons,h2,h1];rfl
theorem zen {l:List Nat} {least:Int} {n m:Nat} (h:TrimO l least n m) (hl:l.length=n) : ∀ x∈l.drop m,x=0:=by
 intro x hx;obtain ⟨i,hi,rfl⟩:=List.getElem_of_mem hx;rw [List.length_drop] at hi;have:=h.zero (m+i) (by omega) (by omega);rw [List.getElem_drop];rw [List.getD_eq_getElem?_getD,List.getElem?_eq_getElem (by omega)] at this;exact this
theorem Vv {l:List Nat} {least:Int} {n m:Nat} (h:TrimO l least n m) (hl:l.length=n):yF (l.take m)=yF l:=by
 conv=>rhs; rw [← List.take_append_drop m l,zhs,QK _ (zen h hl)]
 rfl
theorem QP (p:Int→Bool) (h0:p 0=false) (h1:p 1=true) : ∀ (m s:Nat),s<m→(ints ((List.replicate m 0).set s 1)).countP p=1
 | m+1,0,_=>by
   rw [List.replicate_succ,List.set_cons_zero];show (((1:Nat):Int)::ints (List.replicate m 0)).countP p=1;rw [List.countP_cons];have e:(ints (List.replicate m 0)).countP p=0:=by
    rw [List.countP_eq_zero];intro a ha;obtain ⟨x,hx,rfl⟩:=List.mem_map.1 ha;rw [List.eq_of_mem_replicate hx];simpa using h0
   rw [e];simp [h1]
 | m+1,s+1,h=>by
   rw [List.replicate_succ,List.set_cons_succ];show (((0:Nat):Int)::ints ((List.replicate m 0).set s 1)).countP p=1;rw [List.countP_cons,QP p h0 h1 m s (by omega)];simp [h0]
theorem zds {many:List Int} {n m:Nat} {u:List Nat} {least:Int} (hn:many.length=n) (h300:n≤300) (hu:IsUsed many n u) (hm:TrimO (ofL many u 15 n) least n m) :
 (u=[]→zm (ints ((ofL many u 15 n).take m))=0)∧(u≠[]→yl (ints ((ofL many u 15 n).take m))=true):=by
 have hk:u.length≤2^15:=by have:=hu.le; omega
 have hf:=Js hn hu 15 (by omega) (by omega) hk;have hl:=qU many u 15 n;have h15:=JH hn hu (L:=15) (by omega) (by omega) hk;have ho:yM (ints ((ofL many u 15 n).take m))=true:=Wt (by rw [List.length_take]; omega) (fun x hx=>h15 x (List.mem_of_mem_take hx));have hw:=Vv hm hl;constructor
 · intro h0;unfold zm;rw [if_pos ho,zaT];unfold jq;rw [if_pos (by rw [hw,hf.none h0])]
 · intro hne;rcases Nat.lt_or_ge u.length 2 with h2 | h2
   · have h1:u.length=1:=(by have:=List.length_pos_iff.2 hne; omega);obtain ⟨s,rfl⟩:=List.length_eq_one_iff.1 h1;have hs:s<n:=((hu.mem s).1 (by simp)).1;have hone:=hf.one rfl;have hsm:s<m:=by
      rcases Nat.lt_or_ge s m with h | h
      · exact h
      · have:=hm.zero s h hs;simp at hone;rw [List.getD_eq_getElem?_getD] at this;omega
     have e:(ofL many [s] 15 n).take m=(List.replicate m 0).set s 1:=by
      have hml:=hm.le;have e0:ofL many [s] 15 n=(List.replicate n 0).set s 1:=(by simp [ofL]);rw [e0];rw [List.take_set,List.take_replicate,Nat.min_eq_left hml]
     unfold yl jr JJ;rw [e,QP _ (by simp) (by simp) m s hsm,QP _ (by simp) (by simp) m s hsm];simp
   · unfold yl zm;rw [if_pos ho,zaT];unfold jq;rw [hw,hf.two h2];simp
theorem zfF (p:List Nat×List Nat) (t:Tok) (h:1≤p.1.getD 256 0) (hl:p.1.length=286) (ht:yu t):1≤(kq p t).1.getD 256 0:=by
 show 1≤(qK p.1 (jU t)).getD 256 0;rw [qO _ _ _ (by rw [hl]; exact Jl ht)];omega
theorem Yo (l:List Tok) (hok : ∀ t∈l,yu t) : ∀ i,i≤l.length→1≤(zt (l.take i)).1.getD 256 0
 | 0,_=>by
   rw [List.take_zero,kC];show 1≤(((List.replicate 286 0).set 256 1)).getD 256 0;rw [List.getD_eq_getElem?_getD,List.getElem?_set_self (by rw [List.length_replicate]; omega)];exact Nat.le_refl _
 | i+1,h=>by
   rw [List.take_succ_eq_append_getElem (by omega),jL];exact zfF _ _ (Yo l hok i (by omega)) (qV l i (by omega)).la (hok _ (List.getElem_mem _))
theorem Kb : ∀ (i:Nat) (l:List StpD),i≤l.length→(∀ s∈l,s.sym<19) → ∀ s∈l.take i,1≤(zL (l.take i)).getD s.sym 0
 | 0,l,_,_,s,hs=>by simp at hs
 | i+1,l,h,hsy,s,hs=>by
   have hil:i<l.length:=(by omega);have hl:=(qQ l i (by omega)).1;have h19:=hsy l[i] (List.getElem_mem hil);rw [List.take_succ_eq_append_getElem hil] at hs ⊢;rw [Jf];unfold Va;rw [if_pos (by omega),qO _ _ _ (by omega)];rcases List.mem_append.1 hs with h1 | h1
   · have:=Kb i l (by omega) hsy s h1;omega
   · rw [List.mem_singleton] at h1;rw [h1,if_pos rfl];omega
theorem zdO (c:List Nat) (hl:c.length=19) (j:Nat):c.getD j 0≤(jm c).getD j 0:=by
 have hs : ∀ i x,i<19→c.getD i 0≤x→c.getD j 0≤(c.set i x).getD j 0:=fun i x hi hx=>by
  by_cases h:i=j
  · subst h;rw [List.getD_eq_getElem?_getD (l:=c.set i x),List.getElem?_set_self (by omega)];exact hx
  · rw [List.getD_eq_getElem?_getD (l:=c.set i x),List.getElem?_set_ne h,List.getD_eq_getElem?_getD];exact Nat.le_refl _
 unfold jm;split
 · rename_i h1;split
   · rename_i h0;exact hs 0 1 (by omega) (by omega)
   · rename_i h0;refine hs 1 1 (by omega) ?_;rcases Nat.eq_zero_or_pos (c.getD 1 0) with h2 | h2
     · omega
     · exfalso;have m0:0∈xH (ints c) 19:=(qe _ _ _).2 ⟨by omega,by rw [yh]; omega⟩;have m1:1∈xH (ints c) 19:=(qe _ _ _).2 ⟨by omega,by rw [yh]; omega⟩;obtain ⟨s,hs⟩:=List.length_eq_one_iff.1 h1;rw [hs] at m0 m1;simp at m0 m1;omega
 · exact Nat.le_refl _
theorem zea {l:List Nat} {a b:Nat} (ha:a∈l) (hb:b∈l) (h:a≠b):2≤l.length:=by
 match l,ha,hb with
 | [x],ha,hb=>simp at ha hb; omega
 | x::y::r,_,_=>simp
theorem zhp (c:List Nat) (hl:c.length=19) (j:Nat) (hj:j<19) (h:1≤c.getD j 0):2≤(xH (ints (jm c)) 19).length:=by
 have hin : ∀ i,i<19→1≤(jm c).getD i 0→i∈xH (ints (jm c)) 19:=fun i hi hx=>(qe _ _ _).2 ⟨hi,by rw [yh]; omega⟩;have hmj:=hin j hj (Nat.le_trans h (zdO c hl j));by_cases h1:(xH (ints c) 19).length=1
 · obtain ⟨s,hs⟩:=List.length_eq_one_iff.1 h1;have hsj:j=s:=by
    have:j∈xH (ints c) 19:=(qe _ _ _).2 ⟨hj,by rw [yh]; omega⟩;rw [hs] at this;simpa using this
   by_cases h0:c.getD 0 0=0
   · have e:jm c=c.set 0 1:=(by unfold jm; rw [if_pos h1,if_pos h0]);refine zea hmj (hin 0 (by omega) ?_) (fun e2=>?_)
     · rw [e,List.getD_eq_getElem?_getD,List.getElem?_set_self (by omega)]; exact Nat.le_refl _
     · rw [e2] at h; omega
   · have e:jm c=c.set 1 1:=(by unfold jm; rw [if_pos h1,if_neg h0]);have hj0:j=0:=by
      have:0∈xH (ints c) 19:=(qe _ _ _).2 ⟨by omega,by rw [yh]; omega⟩;rw [hs] at this;simp at this;omega
     refine zea hmj (hin 1 (by omega) ?_) (by omega);rw [e,List.getD_eq_getElem?_getD,List.getElem?_set_self (by omega)]; exact Nat.le_refl _
 · have e:jm c=c:=(by unfold jm; rw [if_neg h1]);rw [e] at hmj ⊢;have:=List.length_pos_of_mem hmj;omega
structure MadeL (l:List Tok) (lits backs:List Nat) (steps:List StpD) (lens:List Nat):Prop where
 okA:yl (ints lits)=true
 okB:zm (ints backs)=0∨yl (ints backs)=true
 okC:zm (ints lens)=1
 sy : ∀ s∈steps,s.sym<19∧1≤lens.getD s.sym 0∧lens.getD s.sym 0≤7
 dec:zg5 [] steps∧zj5 steps=lits++backs
 cost : ∀ u,IsUsed (ints (zt l).1) 286 u→2≤u.length→u.length≤8→qH (ints (zt l).1) lits lits.length≤qH (ints (zt l).1) (ofL (ints (zt l).1) u 7 286) 286
theorem zd5 {many:List Int} {n:Nat} {u:List Nat} (hu:IsUsed many n u) : ∀ (d L:Nat),u.length≤2^L→qH many (ofL many u (L+d) n) n≤qH many (ofL many u L n) n
 | 0,L,_=>Nat.le_refl _
 | d+1,L,hk=>by
   have h1:=zd5 hu d L hk;have h2:=zeg hu (L+d) (Nat.le_trans hk (Nat.pow_le_pow_right (by omega) (by omega)));exact Nat.le_trans h2 h1
theorem zfr (many:List Int) (l:List Nat) {least:Int} {n m:Nat} (h:TrimO l least n m) (hl:l.length=n):qH many (l.take m) m=qH many l n:=by
 have key : ∀ k,m+k≤n→qH many l (m+k)=qH many l m:=by
  intro k
  induction k with
  | zero=>intro _; rfl
  | succ k ih =>
    intro hk;have hz:=h.zero (m+k) (by omega) (by omega);have:=ih (by omega);unfold qH at *;rw [← Nat.add_assoc,yi,this,hz];simp
 have e:qH many (l.take m) m=qH many l m:=by
  unfold qH;refine ql (fun i hi=>?_);have e2:(l.take m).getD i 0=l.getD i 0:=by rw [List.getD_eq_getElem?_getD,List.getElem?_take,if_pos hi,List.getD_eq_getElem?_getD]
  rw [e2]
 have hm:=h.le;have:=key (n-m) (by omega);rw [show m+(n-m)=n by omega] at this;rw [e,this]
theorem MadeO.law {l:List Tok} {lits backs lens:List Nat} {steps:List StpD} (h:MadeO l lits backs steps lens) (hl:(zt l).1.length=286∧(zt l).2.length=30) (hok : ∀ t∈l,yu t):MadeL l lits backs steps lens:=by
 obtain ⟨m1,m1',m2,m2',x15,y15,hsy,hl7,hl19,hsl⟩:=h.bd hl;have hs19:(zL steps).length=19:=by have:=(qQ steps steps.length (Nat.le_refl _)).1; rwa [List.take_length] at this
 have i1:(ints (zt l).1).length=286:=by simp [ints,hl.1]
 have i2:(ints (zt l).2).length=30:=by simp [ints,hl.2]
 have i3:(ints (jm (zL steps))).length=19:=by simp [ints,Yg,hs19]
 obtain ⟨u1,m1x,hu1,ht1,e1⟩:=h.a;obtain ⟨u2,m2x,hu2,ht2,e2⟩:=h.b;obtain ⟨u3,hu3,e3⟩:=h.c;have h256:1≤(zt l).1.getD 256 0:=by have:=Yo l hok l.length (Nat.le_refl _); rwa [List.take_length] at this
 have hne1:u1≠[]:=fun e=>by
  have:=(hu1.mem 256).2 ⟨by omega,by rw [yh]; omega⟩;rw [e] at this;simp at this
 have hcm : ∀ s∈steps,1≤(zL steps).getD s.sym 0:=fun s hs=>by
  have:=Kb steps.length steps (Nat.le_refl _) (fun s hs=>(hsy s hs).1) s (by rw [List.take_length]; exact hs);rwa [List.take_length] at this
 have hdec:=zeb (lits.length+backs.length) (ints (lits++backs)) (-1) [] (by simp [ints]) (fun x hx=>by
  obtain ⟨y,hy,rfl⟩:=List.mem_map.1 hx;rcases List.mem_append.1 hy with hy | hy
  · have:=x15 y hy; omega
  · have:=y15 y hy; omega) (by simp [ints]; omega) (.inl ⟨rfl,rfl⟩)
 rw [← h.s] at hdec;have hd2:zj5 steps=lits++backs:=by
  show steps.foldl Wk []=_;rw [hdec.2];exact zaT _
 have hf3:=Js i3 hu3 7 (by omega) (by omega) (by have:=hu3.le; omega);have hsne : ∃ s,s∈steps:=by
  cases hst:steps with
  | nil =>
    exfalso;rw [hst] at hd2;have:=congrArg List.length hd2;simp [zj5] at this;omega
  | cons s r=>exact ⟨s,List.mem_cons_self⟩
 obtain ⟨s0,hs0⟩:=hsne;have h2:2≤u3.length:=by rw [zbG hu3]; exact zhp _ hs19 s0.sym (hsy s0 hs0).1 (hcm s0 hs0)
 refine ⟨?_,?_,?_,?_,⟨hdec.1,hd2⟩,?_⟩
 · rw [e1]; exact (zds i1 (by omega) hu1 ht1).2 hne1
 · rw [e2];have:=zds i2 (by omega) hu2 ht2;by_cases hu:u2=[]
   · exact .inl (this.1 hu)
   · exact .inr (this.2 hu)
 · have ho:yM (ints lens)=true:=Wt (by omega) (fun x hx=>by have:=hl7 x hx; omega);unfold zm;rw [if_pos ho,zaT];unfold jq;rw [e3,hf3.two h2];simp
 · intro s hs;obtain ⟨h1,_⟩:=hsy s hs;refine ⟨h1,?_,Jj hl7 _⟩;have:=(hf3.iff s.sym h1).2 (by rw [yh]; have:=zdO _ hs19 s.sym; have:=hcm s hs; omega);rw [e3];exact this
 · intro u hu hu2' hu8;obtain rfl:=hu.uniq hu1;have hl1:=qU (ints (zt l).1) u 15 286;have hlm:lits.length=m1x:=(by rw [e1,List.length_take,hl1]; exact Nat.min_eq_left ht1.le);rw [hlm,e1,zfr _ _ ht1 hl1];exact zd5 hu 8 7 (by omega)
end Go.Proofs.YtfkenhihcmmgkaaGreatDoor
namespace Go.Proofs.YtfkenhihcmmgkaaGreatDoor
open Go.RowKit
def zal (lens:List Nat) (i:Nat):List Bool:=(kp.take i).flatMap fun j=>low 3 (lens.getD j 0)
def zjv (lens:List Nat) (s:StpD):List Bool:=ya lens s.sym++low s.bits s.more
def zdK (lens:List Nat) (l:List StpD):List Bool:=l.flatMap (zjv lens)
def zji (m1 m2 t:Nat):List Bool:=low 5 (m1-257)++low 5 (m2-1)++low 4 (t-4)
def zj8 (m1 m2 t:Nat) (lens:List Nat) (steps:List StpD):List Bool:=zji m1 m2 t++zal lens t++zdK lens steps
theorem zcA (lens:List Nat) (i:Nat) (h:i<19):zal lens (i+1)=zal lens i++low 3 (lens.getD (kp.getD i 0) 0):=by
 unfold zal;have hi:i<kp.length:=h;rw [List.take_succ_eq_append_getElem hi,List.flatMap_append,List.flatMap_cons,List.flatMap_nil,List.append_nil];have e:kp.getD i 0=kp[i]:=by rw [List.getD_eq_getElem?_getD,List.getElem?_eq_getElem hi]; rfl
 rw [e]
theorem Vu (lens:List Nat) : ∀ i,i≤19→(zal lens i).length=3*i
 | 0,_=>rfl
 | i+1,h=>by rw [zcA lens i (by omega),List.length_append,Vu lens i (by omega),zO]; omega
theorem Wy (lens:List Nat) (h : ∀ x∈lens,x≤15) : ∀ (l:List StpD),(∀ s∈l,s.bits≤7)→(zdK lens l).length≤22*l.length
 | [],_=>by simp [zdK]
 | s::l,hs=>by
   have h1:=Wy lens h l (fun u hu=>hs u (List.mem_cons_of_mem _ hu));have h2:=Xc lens h s.sym;have h3:=hs s List.mem_cons_self;unfold zdK at *;have e:(zjv lens s).length=(ya lens s.sym).length+s.bits:=(by unfold zjv; rw [List.length_append,zO]);rw [List.flatMap_cons,List.length_append,List.length_cons,e];omega
end Go.Proofs.YtfkenhihcmmgkaaGreatDoor
namespace Go.Proofs.YtfkenhihcmmgkaaGreatDoor
open Go.RowKit
attribute [local go_sem] Oper.semAt_some
def QG (l:List Tok):Nat:=l.countP fun t=>decide (t.long=0)
def Zi (l:List Tok):Nat:=l.countP fun t=>decide (t.long≠0)
theorem zfe (l:List Tok) (t:Tok):QG (l++[t])=QG l+if t.long=0 then 1 else 0:=by unfold QG; rw [List.countP_append]; simp [List.countP_cons]
theorem zfQ (l:List Tok) (t:Tok):Zi (l++[t])=Zi l+if t.long=0 then 0 else 1:=by
 unfold Zi;rw [List.countP_append];by_cases h:t.long=0<;>simp [List.countP_cons,h]
theorem zie (l:List Tok):QG l≤l.length:=List.countP_le_length
theorem zi2 (l:List Tok):Zi l≤l.length:=List.countP_le_length
def zdq (l:List Tok) (w:World) (e:Ending) (w':World):Prop:=e = .returned (.tuple #[.int .i64 (QG l:Nat),.int .i64 (Zi l:Nat)])∧Upd [] w w'
theorem WO (l:List Tok) (a:Option Addr) (n cap:Nat) (w:World) (hI:TokIn w a n l) (hn:n≤100000) :
 Calls Tryz.prog 254 #[.slice a n cap] w fun e w'=>zdq l w e w':=by
 have HI:=Hi hI;have HLN:=Hi hI.len;clear hI;go_enter Tryz.func254,Tryz.ntmps254;go_wp2;go_loopg [2,3,8] 200000 (fun gg s2 s3 s8 wr => ∃ i:Nat,i≤n∧gg=200000-i∧s8 = .int .i64 (i:Nat)∧s2 = .int .i64 (QG (l.take i):Nat)∧s3 = .int .i64 (Zi (l.take i):Nat)∧Hid (Upd [] w wr))
 case atStart=>exact ⟨0,by omega,by omega,rfl,rfl,rfl,Hi (Upd.refl _ _)⟩
 case round =>
  obtain ⟨i,hin,rfl,rfl,rfl,rfl,HU⟩:=hrel;have h1:QG (l.take i)≤i:=Nat.le_trans (zie _) (List.length_take_le _ _);have h2:Zi (l.take i)≤i:=Nat.le_trans (zi2 _) (List.length_take_le _ _);by_cases hc:i<n
  · have hcz:(i:Int)<(n:Int):=(by omega);have hil:i<l.length:=(by rw [HLN.out]; exact hc);have hw1:IntKind.i64.wrap ((i:Int)+1)=((i+1:Nat):Int):=(by rw [IntWalk.i64_in _ (by omega)]; rfl);obtain ⟨b,off,rfl,⟨hc1,hc2,hc3⟩,r1,r2,r3⟩:=(HI.out.pure HU.out).cell i hil;have HL:Hid (QG (l.take (i+1))=QG (l.take i)+if l[i].long=0 then 1 else 0):=Hi (by rw [List.take_succ_eq_append_getElem hil,zfe]);have HF:Hid (Zi (l.take (i+1))=Zi (l.take i)+if l[i].long=0 then 0 else 1):=Hi (by rw [List.take_succ_eq_append_getElem hil,zfQ]);generalize l[i]=t at *;obtain ⟨tb,tl,tk⟩:=t;dsimp only at hc1 hc2 hc3 r1 r2 r3;have HU4:=Hi (HU.out.alloc (.cells #[.int .u8 (tb:Nat),.int .i64 tl,.int .i64 tk] 287));generalize QG (l.take i)=A at *;generalize Zi (l.take i)=B at *;have hwA:IntKind.i64.wrap ((A:Int)+1)=((A+1:Nat):Int):=(by rw [IntWalk.i64_in _ (by omega)]; rfl);have hwB:IntKind.i64.wrap ((B:Int)+1)=((B+1:Nat):Int):=(by rw [IntWalk.i64_in _ (by omega)]; rfl);clear hil;by_cases h0:tl=0
    · have HL0:Hid (QG (l.take (i+1))=A+1):=Hi (by rw [HL.out,if_pos h0]);have HF0:Hid (Zi (l.take (i+1))=B):=Hi (by rw [HF.out,if_pos h0]; rfl);clear HL HF;subst h0;go_wp2;go_roundg (200000-(i+1))
      · exact ⟨i+1,by omega,by omega,by first | rfl | go_num,by rw [HL0.out]; first | rfl | go_num,by rw [HF0.out],HU4⟩
      · omega
    · have h0b:(tl==0)=false:=(by simpa using h0);have HL0:Hid (QG (l.take (i+1))=A):=Hi (by rw [HL.out,if_neg h0]; rfl);have HF0:Hid (Zi (l.take (i+1))=B+1):=Hi (by rw [HF.out,if_neg h0]);clear HL HF;go_wp2;go_roundg (200000-(i+1))
      · exact ⟨i+1,by omega,by omega,by first | rfl | go_num,by rw [HL0.out],by rw [HF0.out]; first | rfl | go_num,HU4⟩
      · omega
  · have hcz : ¬ (i:Int)<(n:Int):=(by omega);obtain rfl:i=n:=(by omega);have htk:l.take i=l:=List.take_of_length_le (by rw [HLN.out]; exact Nat.le_refl _);rw [htk];clear htk h1 h2;go_wp2
    go_ret2
    exact ⟨rfl,HU.out⟩
def za0 (l:List Tok):List Nat:=l.map Tok.byte
def zg2 (L:List Bool) (bs:List Nat):List Bool:=zcg L++low 16 bs.length++low 16 (65535-bs.length)++yc bs
end Go.Proofs.YtfkenhihcmmgkaaGreatDoor
namespace Go.Proofs.YtfkenhihcmmgkaaGreatDoor
theorem VF : ∀ (m s:Nat),s<m→yF ((List.replicate m 0).set s 1)=16384
 | m+1,0,_=>by
   rw [List.replicate_succ,List.set_cons_zero];have:=QK (List.replicate m 0) (fun x hx=>List.eq_of_mem_replicate hx);unfold yF at *;rw [List.map_cons,List.sum_cons,this];rfl
 | m+1,s+1,h=>by
   rw [List.replicate_succ,List.set_cons_succ];have:=VF m s (by omega);unfold yF at *;rw [List.map_cons,List.sum_cons,this];rfl
theorem VD {many:List Int} {n m:Nat} {u:List Nat} {least:Int} (hn:many.length=n) (h300:n≤300) (hu:IsUsed many n u) (hm:TrimO (ofL many u 15 n) least n m) :
 zm (ints ((ofL many u 15 n).take m))≠3∧(u≠[]→zm (ints ((ofL many u 15 n).take m))≠0):=by
 have hk:u.length≤2^15:=by have:=hu.le; omega
 have hf:=Js hn hu 15 (by omega) (by omega) hk;have hl:=qU many u 15 n;have h15:=JH hn hu (L:=15) (by omega) (by omega) hk;have ho:yM (ints ((ofL many u 15 n).take m))=true:=Wt (by rw [List.length_take]; omega) (fun x hx=>h15 x (List.mem_of_mem_take hx));have hw:=Vv hm hl;have hk2:zm (ints ((ofL many u 15 n).take m))=jq ((ofL many u 15 n).take m):=by unfold zm; rw [if_pos ho,zaT]
 rw [hk2];unfold jq;rw [hw];rcases Nat.lt_or_ge u.length 2 with h2 | h2
 · rcases Nat.lt_or_ge u.length 1 with h1 | h1
   · have hu0:u=[]:=List.eq_nil_of_length_eq_zero (by omega);rw [hf.none hu0,if_pos rfl];exact ⟨by omega,fun h=>absurd hu0 h⟩
   · obtain ⟨s,rfl⟩:=List.length_eq_one_iff.1 (show u.length=1 by omega);have hs:s<n:=((hu.mem s).1 (by simp)).1;have e0:ofL many [s] 15 n=(List.replicate n 0).set s 1:=(by simp [ofL]);rw [e0,VF n s hs];exact ⟨by decide,fun _=>by decide⟩
 · rw [hf.two h2];exact ⟨by decide,fun _=>by decide⟩
theorem zaN {l:List Nat} {least:Int} {n m j:Nat} (h:TrimO l least n m) (hl:l.length=n) (hj:l.getD j 0≠0):(l.take m).getD j 0=l.getD j 0:=by
 have hjn:j<n:=by
  rcases Nat.lt_or_ge j n with h1 | h1
  · exact h1
  · rw [List.getD_eq_getElem?_getD,List.getElem?_eq_none (by omega)] at hj;exact absurd rfl hj
 have hjm:j<m:=by
  rcases Nat.lt_or_ge j m with h1 | h1
  · exact h1
  · exact absurd (h.zero j h1 hjn) hj
 rw [List.getD_eq_getElem?_getD,List.getElem?_take,if_pos hjm,List.getD_eq_getElem?_getD]
theorem zaf (p:List Nat×List Nat) (t:Tok) (hl:p.1.length=286) (h2:p.2.length=30) (ht:yu t) (j:Nat):p.1.getD j 0≤(kq p t).1.getD j 0∧p.2.getD j 0≤(kq p t).2.getD j 0:=by
 constructor
 · show p.1.getD j 0≤(qK p.1 (jU t)).getD j 0;rw [qO _ _ _ (by rw [hl]; exact Jl ht)];omega
 · show p.2.getD j 0≤(if t.long=0 then p.2 else qK p.2 (vJ t)).getD j 0;split
   · exact Nat.le_refl _
   · rename_i h0;rw [qO _ _ _ (by rw [h2]; exact Jp ht h0)];omega
theorem zbf (l:List Tok) (hok : ∀ t∈l,yu t) : ∀ i,i≤l.length → ∀ t∈l.take i,1≤(zt (l.take i)).1.getD (jU t) 0∧(t.long≠0→1≤(zt (l.take i)).2.getD (vJ t) 0)
 | 0,_,t,ht=>by simp at ht
 | i+1,h,t,ht=>by
   have hil:i<l.length:=(by omega);have ho:=qV l i (by omega);have hu:=hok l[i] (List.getElem_mem hil);rw [List.take_succ_eq_append_getElem hil] at ht ⊢;rw [jL];rcases List.mem_append.1 ht with h1 | h1
   · obtain ⟨a,b⟩:=zbf l hok i (by omega) t h1;obtain ⟨c,_⟩:=zaf _ _ ho.la ho.lb hu (jU t);obtain ⟨_,d⟩:=zaf _ _ ho.la ho.lb hu (vJ t);exact ⟨Nat.le_trans a c,fun h0=>Nat.le_trans (b h0) d⟩
   · rw [List.mem_singleton] at h1;subst h1;constructor
     · show 1≤(qK (zt (l.take i)).1 (jU l[i])).getD (jU l[i]) 0;rw [qO _ _ _ (by rw [ho.la]; exact Jl hu),if_pos rfl];omega
     · intro h0;show 1≤(if l[i].long=0 then (zt (l.take i)).2 else qK (zt (l.take i)).2 (vJ l[i])).getD (vJ l[i]) 0;rw [if_neg h0,qO _ _ _ (by rw [ho.lb]; exact Jp hu h0),if_pos rfl];omega
structure PlanOk (l:List Tok) (lits backs:List Nat):Prop where
 coded:Coded lits backs l
 a3:zm (ints lits)≠3
 a0:zm (ints lits)≠0
 b3:zm (ints backs)≠3
 b0:(∃ t∈l,t.long≠0)→zm (ints backs)≠0
theorem MadeO.plan {l:List Tok} {lits backs lens:List Nat} {steps:List StpD} (h:MadeO l lits backs steps lens) (hl:(zt l).1.length=286∧(zt l).2.length=30) (hok : ∀ t∈l,yu t):PlanOk l lits backs:=by
 obtain ⟨u1,m1,hu1,ht1,e1⟩:=h.a;obtain ⟨u2,m2,hu2,ht2,e2⟩:=h.b;have i1:(ints (zt l).1).length=286:=by simp [ints,hl.1]
 have i2:(ints (zt l).2).length=30:=by simp [ints,hl.2]
 have f1:=Js i1 hu1 15 (by omega) (by omega) (by have:=hu1.le; omega);have f2:=Js i2 hu2 15 (by omega) (by omega) (by have:=hu2.le; omega);have l1:=qU (ints (zt l).1) u1 15 286;have l2:=qU (ints (zt l).2) u2 15 30;have hm : ∀ t∈l,1≤(zt l).1.getD (jU t) 0∧(t.long≠0→1≤(zt l).2.getD (vJ t) 0):=fun t ht=>by
  have:=zbf l hok l.length (Nat.le_refl _) t (by rw [List.take_length]; exact ht);rwa [List.take_length] at this
 have h256:1≤(zt l).1.getD 256 0:=by have:=Yo l hok l.length (Nat.le_refl _); rwa [List.take_length] at this
 have ga : ∀ j,j<286→1≤(zt l).1.getD j 0→lits.getD j 0≠0:=fun j hj hx=>by
  have h1:=(f1.iff j hj).2 (by rw [yh]; omega);rw [e1,zaN ht1 l1 (by omega)];omega
 have gb : ∀ j,j<30→1≤(zt l).2.getD j 0→backs.getD j 0≠0:=fun j hj hx=>by
  have h1:=(f2.iff j hj).2 (by rw [yh]; omega);rw [e2,zaN ht2 l2 (by omega)];omega
 have c1:=VD i1 (by omega) hu1 ht1;have c2:=VD i2 (by omega) hu2 ht2;rw [← e1] at c1;rw [← e2] at c2;refine ⟨⟨ga 256 (by omega) h256,fun t ht=>ga _ (Jl (hok t ht)) (hm t ht).1,fun t ht h0=>gb _ (Jp (hok t ht) h0) ((hm t ht).2 h0)⟩,c1.1,c1.2 ?_,c2.1,fun ⟨t,ht,h0⟩=>c2.2 ?_⟩
 · intro e;have:=(hu1.mem 256).2 ⟨by omega,by rw [yh]; omega⟩;rw [e] at this;simp at this
 · intro e;have:=(hu2.mem (vJ t)).2 ⟨Jp (hok t ht) h0,by rw [yh]; have:=(hm t ht).2 h0; omega⟩;rw [e] at this;simp at this
def zbD (L:List Bool) (kind:Nat) (last:Bool):List Bool:=L++low 1 (if last then 1 else 0)++low 2 kind
def zd0 (L:List Bool) (l:List Tok) (kind:Nat) (last:Bool) (M:List Bool):Prop :=
 (kind=0∧M=zg2 (zbD L 0 last) (za0 l))∨(kind=1∧M=zbD L 1 last++Vw (yG 4) (List.replicate 32 5) l) ∨
 (kind=2 ∧ ∃ lits backs steps lens t,MadeO l lits backs steps lens∧ToldO lens t∧M=zbD L 2 last++zj8 lits.length backs.length t lens steps++Vw lits backs l)
end Go.Proofs.YtfkenhihcmmgkaaGreatDoor
namespace Go.Proofs.YtfkenhihcmmgkaaGreatDoor
open Go.RowKit
attribute [local go_sem] Oper.semAt_some
theorem WM {w:World} {e:TypeId} {size n k:Nat} {v:Value} {xs:List Value} (h:Row w e size v n xs) (hk:v.ownBlock=some k) : ∃ cs fr,w.heap[k]? =some (.cells cs e fr):=by
 rcases h.2 with ⟨rfl,rfl⟩ | ⟨g',cap,cur,rfl,hb,hh,_⟩
 · simp [Value.ownBlock] at hk
 · simp [Value.ownBlock] at hk;subst hk;exact ⟨_,_,hh⟩
theorem WrAt.apart {w:World} {b m k:Nat} {v:Value} {L:List Bool} {T:TypeId} {cs:Array Value} {fr:Nat×Nat} (h:WrAt w b v L m) (hk:w.heap[k]? =some (.cells cs T fr)) (h1:T≠275) (h2:T≠5):k∉xJ b v:=fun hm=>by
 rcases List.mem_cons.1 hm with h3 | h3
 · subst h3;have:=h.blk;unfold Blk at this;rw [this] at hk;simp at hk;exact h1 hk.2.1.symm
 · obtain ⟨cs',fr',h4⟩:=WM h.row (k:=k) (by simpa using h3);rw [h4] at hk;simp at hk;exact h2 hk.2.1.symm
theorem ziL (m1 m2 t:Nat) (lens:List Nat) (steps:List StpD) (ht:t≤19) (hl : ∀ x∈lens,x≤15) (hs : ∀ s∈steps,s.bits≤7):(zj8 m1 m2 t lens steps).length≤71+22*steps.length:=by
 have h1:=Vu lens t ht;have h2:=Wy lens hl steps hs;unfold zj8 zji;simp only [List.length_append,zO];omega
end Go.Proofs.YtfkenhihcmmgkaaGreatDoor
namespace Go.Proofs.YtfkenhihcmmgkaaGreatDoor
open Go.RowKit
attribute [local go_sem] Oper.semAt_some
theorem zi6:(yG 4).getD 120 0≠0∧(yG 4).getD 256 0≠0∧zm (ints (yG 4))≠3:=by decide +kernel
theorem zjN (b:Nat) (v:Value) (L:List Bool) (a x:Option Addr) (y:Value) (cap cx:Nat) (w:World)
 (hI : ∀ w',Upd (xJ b v) w w'→TokIn w' a 1 [⟨120,0,0⟩]) (hX : ∀ w',Upd (xJ b v) w w'→IntsIn w' x 288 (ints (yG 4))) (hW:WrAt w b v L (L.length/8)) (hL:L.length≤1000) :
 Calls Tryz.prog 257 #[.pointer (some ⟨b,0,none⟩),.slice a 1 cap,.slice x 288 cx,y] w (zkq w b v ((L++ya (yG 4) 120)++ya (yG 4) 256)):=by
 have Hx:=Hi hX;have HI:=Hi hI;have HW0:=Hi (WS.refl hW);have hs1:=Xc (yG 4) vB.1 120;obtain ⟨S1,hS1⟩ : ∃ S1,ya (yG 4) 120=S1:=⟨_,rfl⟩;have HS1:=Hi hS1;rw [hS1] at hs1 ⊢;clear hI hX hW hS1;go_enter Tryz.func257,Tryz.ntmps257;go_wp2;go_loopg [16] 1 (fun gg s16 wr => ∃ (i:Nat) (v':Value) (M:List Bool),i≤1∧gg=1-i∧s16 = .int .i64 (i:Nat)∧M.length≤1015∧Hid (M=if i=0 then L else L++S1)∧Hid (WS w b v wr v' M))
 case atStart=>exact ⟨0,v,L,by omega,rfl,rfl,by omega,Hi rfl,HW0⟩
 case round =>
  clear HW0;obtain ⟨i,vi,M,hi,rfl,rfl,hm,HM,HWi⟩:=hrel;rcases (by omega:i=0∨i=1) with rfl | rfl
  · obtain ⟨bt,off,rfl,⟨hc1,hc2,hc3⟩,-⟩:=(HI.out _ HWi.out.upd).cell 0 (by simp);simp only [List.getElem_cons_zero,Nat.zero_mul,Nat.add_zero] at hc1 hc2 hc3;have hT4:=Blk.new wr [.int .u8 120,.int .i64 0,.int .i64 0] 287;have HW4:=Hi (HWi.out.pure ((Upd.refl [] wr).alloc (.cells #[.int .u8 120,.int .i64 0,.int .i64 0] 287)));(go_upto_region 3 with fail);change Code.wp _ _ _ _ (wr.alloc (.cells #[.int .u8 120,.int .i64 0,.int .i64 0] 287));generalize wr.alloc (.cells #[.int .u8 120,.int .i64 0,.int .i64 0] 287)=w4 at *;generalize wr.heap.size=g at *;have tA:=hT4.all;have HWc:=Hi (zbb b 288 cx 120 vi M x (yG 4) w4 (fun w' h=>Hx.out w' (HW4.out.fp h)) HW4.out.at_ (by omega) zi6.2.2 zi6.1);clear hT4 hc1 hc2 hc3 HWi;(go_wp2_with fail);refine HWc.out.mono ?_;rintro e w6 ⟨rfl,v6,h61,h62,h63⟩;have HW6:=Hi (HW4.out.step h61 h62 h63);clear h61 h62 h63 HWc;go_wp2;go_roundg 0
    · exact ⟨1,v6,L++S1,by omega,by first | rfl | omega,by first | rfl | go_num,by rw [List.length_append]; omega,Hi rfl,Hi (by rw [← HS1.out]; have h:=HW6.out; rw [HM.out] at h; exact h)⟩
    · omega
  · have HWc:=Hi (zbb b 288 cx 256 vi M x (yG 4) wr (fun w' h=>Hx.out w' (HWi.out.fp h)) HWi.out.at_ (by omega) zi6.2.2 zi6.2.1);(go_wp2_with fail);refine HWc.out.mono ?_;rintro e w6 ⟨rfl,v6,h61,h62,h63⟩;have HW6:=Hi (HWi.out.step h61 h62 h63);clear h61 h62 h63 HWc;go_wp2;go_returns;exact ⟨rfl,v6,by have h:=HW6.out; rw [HM.out] at h; exact h⟩
theorem zgG (b:Nat) (v:Value) (a:Option Addr) (cap:Nat) (w:World) (hI : ∀ w',Upd (xJ b v) w w'→TokIn w' a 1 [⟨120,0,0⟩]) (hW:WrAt w b v [] 0) :
 Calls Tryz.prog 223 #[.pointer (some ⟨b,0,none⟩),.slice a 1 cap,.int .i64 1,.bool true] w fun e w'=>e = .returned (.bool true) ∧ ∃ v' M,1≤M.length∧M.length≤1000∧WS w b v w' v' M:=by
 have HC:=Hi (WO [⟨120,0,0⟩] a 1 cap w (hI w (Upd.refl _ _)) (by omega));unfold zdq at HC;have HI:=Hi hI;have HW:=Hi (WS.refl (L:=[]) hW);generalize QG [⟨120,0,0⟩]=A at *;generalize Zi [⟨120,0,0⟩]=B at *;clear hI hW;go_enter Tryz.func223,Tryz.ntmps223;go_wp2_with fail
 refine HC.out.mono ?_;rintro e w1 ⟨rfl,hU1⟩;have HW1:=Hi (HW.out.pure hU1);have HBX:=Hi (Yd b 1 1 1 1 w1 v [] rfl (by omega) HW1.out.at_ (by simp) (by omega) (Hi (by omega)));clear hU1 HC HW;go_wp2_with fail
 refine HBX.out.mono ?_;rintro e w2 ⟨rfl,v2,h1',h2',h3⟩;have HW2:=Hi (HW1.out.step h1' h2' h3);clear h1' h2' h3 HBX HW1;obtain ⟨L2,hL2⟩ : ∃ L2,([]:List Bool)++low 1 1=L2:=⟨_,rfl⟩;have hl2:L2.length=1:=by rw [← hL2,List.length_append,zO]; rfl
 rw [hL2] at HW2;have HBX:=Hi (Yd b 1 1 2 2 w2 v2 L2 rfl (by omega) HW2.out.at_ (by omega) (by omega) (Hi (by omega)));clear hL2;go_wp2_with fail
 refine HBX.out.mono ?_;rintro e w3 ⟨rfl,v3,h1',h2',h3⟩;have HW3:=Hi (HW2.out.step h1' h2' h3);clear h1' h2' h3 HBX HW2;obtain ⟨L3,hL3⟩ : ∃ L3,L2++low 2 1=L3:=⟨_,rfl⟩;have hl3:L3.length=3:=by rw [← hL3,List.length_append,zO]; omega
 rw [hL3] at HW3;clear hL3 hl2;go_wp2_with fail
 refine (QE _).mono ?_;rintro e w4 ⟨f1,d1,f2,rfl,hF1,hF2,hU4,_,_⟩;have HW4:=Hi (HW3.out.pure hU4);obtain ⟨cs1,fr1,hh1⟩:=WM hF1 (k:=f1) rfl;have hn1:=HW4.out.at_.apart hh1 (by decide) (by decide);have hI1:IntsIn w4 (some ⟨f1,0,none⟩) 288 (ints (yG 4)):=IntsIn.row hF1 (fun x hx=>by have:=vB.1 x hx; omega);have HS:=Hi (zjN b v3 L3 a (some ⟨f1,0,none⟩) (.slice (some ⟨f2,0,none⟩) 32 32) cap d1 w4 (fun w' h=>HI.out w' (HW4.out.fp h)) (fun w' h=>hI1.upd h (fun b' off e=>by cases e; exact hn1)) HW4.out.at_ (by omega));have z1:=Xc (yG 4) vB.1 120;have z2:=Xc (yG 4) vB.1 256;have hz:1≤((L3++ya (yG 4) 120)++ya (yG 4) 256).length∧((L3++ya (yG 4) 120)++ya (yG 4) 256).length≤1000:=by rw [List.length_append,List.length_append]; omega
 generalize (L3++ya (yG 4) 120)++ya (yG 4) 256=M at *;have HZ:=Hi hz;clear hF1 hF2 hU4 hh1 hn1 hI1 HW3 z1 z2 hz;go_wp2_with fail
 refine HS.out.mono ?_;rintro e w5 ⟨rfl,v5,h5⟩;have HW5:=Hi (HW4.out.step h5.at_ h5.upd h5.later);clear h5 HS;go_wp2;go_ret;exact ⟨rfl,v5,M,HZ.out.1,HZ.out.2,HW5.out⟩
end Go.Proofs.YtfkenhihcmmgkaaGreatDoor
