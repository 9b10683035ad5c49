/- A plan's lengths have a code for every symbol that comes (plain). -/
import Derived.Test.YtfkcdnaghndgfaaGreatDoorQBP
import Derived.Test.YtfkcdnaghndgfaaGreatDoorQBR
import Derived.Test.YtfkcdnaghndgfaaGreatDoorQBO
set_option linter.unusedVariables false
set_option linter.unusedSimpArgs false
set_option linter.unusedSectionVars false
namespace Go.Proofs.YtfkcdnaghndgfaaGreatDoor
theorem Vr : ∀ (m s:Nat),s<m→xL ((List.replicate m 0).set s 1)=16384
 | m+1,0,_=>by
   rw [List.replicate_succ,List.set_cons_zero]
   have:=Zd (List.replicate m 0) (fun x hx=>List.eq_of_mem_replicate hx)
   unfold xL at *
   rw [List.map_cons,List.sum_cons,this]
   rfl
 | m+1,s+1,h=>by
   rw [List.replicate_succ,List.set_cons_succ]
   have:=Vr m s (by omega)
   unfold xL at *
   rw [List.map_cons,List.sum_cons,this]
   rfl
theorem Vb {many:List Int} {n m:Nat} {u:List Nat} {least:Int} (hn:many.length=n) (h300:n≤300) (hu:IsUsed many n u) (hm:TrimO (ofL many u 15 n) least n m) :
 zp (ints ((ofL many u 15 n).take m))≠3∧(u≠[]→zp (ints ((ofL many u 15 n).take m))≠0):=by
 have hk:u.length≤2^15:=by have:=hu.le; omega
 have hf:=Jn hn hu 15 (by omega) (by omega) hk
 have hl:=qL many u 15 n
 have h15:=JR hn hu (L:=15) (by omega) (by omega) hk
 have ho:yS (ints ((ofL many u 15 n).take m))=true:=Ki (by rw [List.length_take]; omega) (fun x hx=>h15 x (List.mem_of_mem_take hx))
 have hw:=YK hm hl
 have hk2:zp (ints ((ofL many u 15 n).take m))=jX ((ofL many u 15 n).take m):=by unfold zp; rw [if_pos ho,WT]
 rw [hk2]
 unfold jX
 rw [hw]
 rcases Nat.lt_or_ge u.length 2 with h2 | h2
 · rcases Nat.lt_or_ge u.length 1 with h1 | h1
   · have hu0:u=[]:=List.eq_nil_of_length_eq_zero (by omega)
     rw [hf.none hu0,if_pos rfl]
     exact ⟨by omega,fun h=>absurd hu0 h⟩
   · obtain ⟨s,rfl⟩:=List.length_eq_one_iff.1 (show u.length=1 by omega)
     have hs:s<n:=((hu.mem s).1 (by simp)).1
     have e0:ofL many [s] 15 n=(List.replicate n 0).set s 1:=by simp [ofL]
     rw [e0,Vr n s hs]
     exact ⟨by decide,fun _=>by decide⟩
 · rw [hf.two h2]
   exact ⟨by decide,fun _=>by decide⟩
theorem zaw {l:List Nat} {least:Int} {n m j:Nat} (h:TrimO l least n m) (hl:l.length=n) (hj:l.getD j 0≠0):(l.take m).getD j 0=l.getD j 0:=by
 have hjn:j<n:=by
  rcases Nat.lt_or_ge j n with h1 | h1
  · exact h1
  · rw [List.getD_eq_getElem?_getD,List.getElem?_eq_none (by omega)] at hj
    exact absurd rfl hj
 have hjm:j<m:=by
  rcases Nat.lt_or_ge j m with h1 | h1
  · exact h1
  · exact absurd (h.zero j h1 hjn) hj
 rw [List.getD_eq_getElem?_getD,List.getElem?_take,if_pos hjm,List.getD_eq_getElem?_getD]
theorem zaM (p:List Nat×List Nat) (t:Tok) (hl:p.1.length=286) (h2:p.2.length=30) (ht:zo t) (j:Nat):p.1.getD j 0≤(ju p t).1.getD j 0∧p.2.getD j 0≤(ju p t).2.getD j 0:=by
 constructor
 · show p.1.getD j 0≤(xr p.1 (xx t)).getD j 0
   rw [qv _ _ _ (by rw [hl]; exact ve ht)]
   omega
 · show p.2.getD j 0≤(if t.long=0 then p.2 else xr p.2 (xK t)).getD j 0
   split
   · exact Nat.le_refl _
   · rename_i h0
     rw [qv _ _ _ (by rw [h2]; exact kO ht h0)]
     omega
theorem KS (l:List Tok) (hok : ∀ t∈l,zo t) : ∀ i,i≤l.length → ∀ t∈l.take i,1≤(zh (l.take i)).1.getD (xx t) 0∧(t.long≠0→1≤(zh (l.take i)).2.getD (xK t) 0)
 | 0,_,t,ht=>by simp at ht
 | i+1,h,t,ht=>by
   have hil:i<l.length:=by omega
   have ho:=xt l i (by omega)
   have hu:=hok l[i] (List.getElem_mem hil)
   rw [List.take_succ_eq_append_getElem hil] at ht ⊢
   rw [jO]
   rcases List.mem_append.1 ht with h1 | h1
   · obtain ⟨a,b⟩:=KS l hok i (by omega) t h1
     obtain ⟨c,_⟩:=zaM _ _ ho.la ho.lb hu (xx t)
     obtain ⟨_,d⟩:=zaM _ _ ho.la ho.lb hu (xK t)
     exact ⟨Nat.le_trans a c,fun h0=>Nat.le_trans (b h0) d⟩
   · rw [List.mem_singleton] at h1
     subst h1
     constructor
     · show 1≤(xr (zh (l.take i)).1 (xx l[i])).getD (xx l[i]) 0
       rw [qv _ _ _ (by rw [ho.la]; exact ve hu),if_pos rfl]
       omega
     · intro h0
       show 1≤(if l[i].long=0 then (zh (l.take i)).2 else xr (zh (l.take i)).2 (xK l[i])).getD (xK l[i]) 0
       rw [if_neg h0,qv _ _ _ (by rw [ho.lb]; exact kO hu h0),if_pos rfl]
       omega
structure PlanOk (l:List Tok) (lits backs:List Nat):Prop where
 coded:Coded lits backs l
 a3:zp (ints lits)≠3
 a0:zp (ints lits)≠0
 b3:zp (ints backs)≠3
 b0:(∃ t∈l,t.long≠0)→zp (ints backs)≠0
theorem MadeO.plan {l:List Tok} {lits backs lens:List Nat} {steps:List StpD} (h:MadeO l lits backs steps lens) (hl:(zh l).1.length=286∧(zh l).2.length=30) (hok : ∀ t∈l,zo t):PlanOk l lits backs:=by
 obtain ⟨u1,m1,hu1,ht1,e1⟩:=h.a
 obtain ⟨u2,m2,hu2,ht2,e2⟩:=h.b
 have i1:(ints (zh l).1).length=286:=by simp [ints,hl.1]
 have i2:(ints (zh l).2).length=30:=by simp [ints,hl.2]
 have f1:=Jn i1 hu1 15 (by omega) (by omega) (by have:=hu1.le; omega)
 have f2:=Jn i2 hu2 15 (by omega) (by omega) (by have:=hu2.le; omega)
 have l1:=qL (ints (zh l).1) u1 15 286
 have l2:=qL (ints (zh l).2) u2 15 30
 have hm : ∀ t∈l,1≤(zh l).1.getD (xx t) 0∧(t.long≠0→1≤(zh l).2.getD (xK t) 0):=fun t ht=>by
  have:=KS l hok l.length (Nat.le_refl _) t (by rw [List.take_length]; exact ht)
  rwa [List.take_length] at this
 have h256:1≤(zh l).1.getD 256 0:=by have:=Xt l hok l.length (Nat.le_refl _); rwa [List.take_length] at this
 have ga : ∀ j,j<286→1≤(zh l).1.getD j 0→lits.getD j 0≠0:=fun j hj hx=>by
  have h1:=(f1.iff j hj).2 (by rw [ye]; omega)
  rw [e1,zaw ht1 l1 (by omega)]
  omega
 have gb : ∀ j,j<30→1≤(zh l).2.getD j 0→backs.getD j 0≠0:=fun j hj hx=>by
  have h1:=(f2.iff j hj).2 (by rw [ye]; omega)
  rw [e2,zaw ht2 l2 (by omega)]
  omega
 have c1:=Vb i1 (by omega) hu1 ht1
 have c2:=Vb i2 (by omega) hu2 ht2
 rw [← e1] at c1
 rw [← e2] at c2
 refine ⟨⟨ga 256 (by omega) h256,fun t ht=>ga _ (ve (hok t ht)) (hm t ht).1,fun t ht h0=>gb _ (kO (hok t ht) h0) ((hm t ht).2 h0)⟩,c1.1,c1.2 ?_,c2.1,fun ⟨t,ht,h0⟩=>c2.2 ?_⟩
 · intro e
   have:=(hu1.mem 256).2 ⟨by omega,by rw [ye]; omega⟩
   rw [e] at this
   simp at this
 · intro e
   have:=(hu2.mem (xK t)).2 ⟨kO (hok t ht) h0,by rw [ye]; have:=(hm t ht).2 h0; omega⟩
   rw [e] at this
   simp at this
theorem KN : ∀ j:Fin 288,(yU 4).getD j.val 0≠0:=by decide +kernel
theorem Jm:zp (ints (yU 4))=1∧zp (ints (List.replicate 32 5))=1:=by decide +kernel
theorem Xv (l:List Tok) (hok : ∀ t∈l,zo t):PlanOk l (yU 4) (List.replicate 32 5):=by
 have hb : ∀ j,j<30→(List.replicate 32 5).getD j 0≠0:=fun j hj=>by
  rw [List.getD_eq_getElem?_getD,List.getElem?_replicate,if_pos (by omega)]
  simp
 refine ⟨⟨KN ⟨256,by omega⟩,fun t ht=>KN ⟨xx t,by have:=ve (hok t ht); omega⟩,fun t ht h0=>hb _ (kO (hok t ht) h0)⟩,?_,?_,?_,fun _=>?_⟩
 · rw [Jm.1]; omega
 · rw [Jm.1]; omega
 · rw [Jm.2]; omega
 · rw [Jm.2]; omega
def yn (L:List Bool) (kind:Nat) (last:Bool):List Bool:=L++low 1 (if last then 1 else 0)++low 2 kind
def qh (L:List Bool) (l:List Tok) (kind:Nat) (last:Bool) (M:List Bool):Prop :=
 (kind=0∧M=xQ (yn L 0 last) (zQ l))∨(kind=1∧M=yn L 1 last++xZ (yU 4) (List.replicate 32 5) l) ∨
 (kind=2 ∧ ∃ lits backs steps lens t,MadeO l lits backs steps lens∧ToldO lens t∧M=yn L 2 last++vr lits.length backs.length t lens steps++xZ lits backs l)
end Go.Proofs.YtfkcdnaghndgfaaGreatDoor
namespace Go.Proofs.YtfkcdnaghndgfaaGreatDoor
theorem zdj (na nb:List Nat) (t:Tok):(((kr na nb t).length:Nat):Int)=qi (ints na) (ints nb) t:=by
 unfold kr qi
 by_cases h0:t.long=0
 · rw [if_pos h0,if_pos h0,zH,ye]
 · rw [if_neg h0,if_neg h0]
   simp only [List.length_append,zH,ze]
   rw [ye,ye]
   have h1:xx t=257+(ya t.long.toNat 29 0).getD 0:=by unfold xx; rw [if_neg h0]
   have h2:xK t=(qb t.back.toNat 30 0).getD 0:=rfl
   rw [h1,h2]
   omega
theorem Vm (na nb:List Nat) : ∀ (l:List Tok) (x:Int),l.foldl (fun n t=>n+qi (ints na) (ints nb) t) x=x+((xA na nb l).length:Nat)
 | [],x=>by simp [xA]
 | t::l,x=>by
   have e:xA na nb (t::l)=kr na nb t++xA na nb l:=by unfold xA; rw [List.flatMap_cons]
   rw [List.foldl_cons,Vm na nb l,e,List.length_append,← zdj]
   omega
theorem kJ (na nb:List Nat) (l:List Tok):(((xZ na nb l).length:Nat):Int)=kL (ints na) (ints nb) l:=by
 rw [JG,List.length_append,zH]
 unfold kL
 rw [Vm,ye]
 omega
theorem WJ (lens:List Nat) : ∀ l,(xi lens l).length=szT lens l
 | []=>rfl
 | s::l=>by
   have e:xi lens (s::l)=QO lens s++xi lens l:=by unfold xi; rw [List.flatMap_cons]
   have e2:szT lens (s::l)=(lens.getD s.sym 0+s.bits)+szT lens l:=by unfold szT; rw [List.map_cons,List.sum_cons]
   rw [e,e2,List.length_append,WJ lens l]
   unfold QO
   rw [List.length_append,zH,ze]
theorem zhT (m1 m2 t:Nat) (lens:List Nat) (steps:List StpD) (ht:t≤19):(vr m1 m2 t lens steps).length=14+3*t+szT lens steps:=by
 unfold vr XK
 simp only [List.length_append,ze]
 rw [kz lens t ht,WJ]
theorem TrimO.uniq {l:List Nat} {least:Int} {n m k:Nat} (h:TrimO l least n m) (g:TrimO l least n k):m=k:=by
 have key : ∀ {m k:Nat},TrimO l least n m→TrimO l least n k → ¬ m<k:=fun {m k} h g hlt=>by
  rcases g.last with h1 | h1 | h1
  · omega
  · rcases h.few with h2 | h2
    · have:=g.le; omega
    · omega
  · exact h1 (h.zero (k-1) (by omega) (by have:=g.le; omega))
 have:=key h g
 have:=key g h
 omega
theorem MadeO.uniq {l:List Tok} {a b c d:List Nat} {s r:List StpD} {e f:List Nat} (h:MadeO l a b s e) (g:MadeO l c d r f):a=c∧b=d∧s=r∧e=f:=by
 obtain ⟨u1,m1,h1,h2,h3⟩:=h.a
 obtain ⟨u2,m2,g1,g2,g3⟩:=g.a
 obtain rfl:=h1.uniq g1
 obtain rfl:=h2.uniq g2
 have ea:a=c:=by rw [h3,g3]
 obtain ⟨v1,k1,p1,p2,p3⟩:=h.b
 obtain ⟨v2,k2,q1,q2,q3⟩:=g.b
 obtain rfl:=p1.uniq q1
 obtain rfl:=p2.uniq q2
 have eb:b=d:=by rw [p3,q3]
 have es:s=r:=by rw [h.s,g.s,ea,eb]
 subst ea eb es
 obtain ⟨x1,r1,r2⟩:=h.c
 obtain ⟨x2,t1,t2⟩:=g.c
 obtain rfl:=r1.uniq t1
 exact ⟨rfl,rfl,rfl,by rw [r2,t2]⟩
theorem jH : ∀ (l:List Tok) (out r:List Nat),(∀ t∈l,zo t)→zJ l out=some r→r.length=out.length+zl l
 | [],out,r,_,h=>by
   have:out=r:=by simpa [zJ] using h
   rw [← this]
   simp [zl]
 | t::l,out,r,hok,h=>by
   have ht:=hok t List.mem_cons_self
   have e:zl (t::l)=yH t+zl l:=by unfold zl; rw [List.map_cons,List.sum_cons]
   have hok2 : ∀ u∈l,zo u:=fun u hu=>hok u (List.mem_cons_of_mem _ hu)
   rw [yw] at h
   unfold zo at ht
   split at h
   · rename_i h0
     split at h
     · cases h
     · have:=jH l _ r hok2 h
       rw [List.length_append] at this
       have e2:yH t=1:=by unfold yH; rw [if_pos (by omega)]
       simp at this
       omega
   · rename_i h0
     split at h
     · cases h
     · have:=jH l _ r hok2 h
       rw [Jo] at this
       have e2:yH t=t.long.toNat:=by unfold yH; rw [if_neg (by omega)]
       omega
theorem Vy : ∀ (l:List Tok),(∀ t∈l,zo t)→l.length≤zl l∧(zl l=l.length↔xF l=0)
 | [],_=>⟨Nat.le_refl _,by simp [zl,xF]⟩
 | t::l,hok=>by
   have ht:=hok t List.mem_cons_self
   have e:zl (t::l)=yH t+zl l:=by unfold zl; rw [List.map_cons,List.sum_cons]
   obtain ⟨h1,h2⟩:=Vy l (fun u hu=>hok u (List.mem_cons_of_mem _ hu))
   have hf:xF (t::l)=xF l+if t.long=0 then 0 else 1:=by
    unfold xF
    rw [List.countP_cons]
    by_cases h0:t.long=0<;>simp [h0]
   unfold zo at ht
   rw [e,hf,List.length_cons]
   by_cases h0:t.long=0
   · have e2:yH t=1:=by unfold yH; rw [if_pos (by omega)]
     rw [e2,if_pos h0]
     refine ⟨by omega,?_⟩
     rw [Nat.add_zero]
     exact ⟨fun h=>h2.1 (by omega),fun h=>by have:=h2.2 h; omega⟩
   · have e2:yH t=t.long.toNat:=by unfold yH; rw [if_neg (by omega)]
     rw [e2,if_neg h0]
     exact ⟨by omega,by constructor<;>intro h<;>omega⟩
theorem kt (L:List Bool) (k:Nat) (last:Bool):(yn L k last).length=L.length+3:=by unfold yn; rw [List.length_append,List.length_append,ze,ze]
def Kw (l:List Tok) (lits backs lens:List Nat) (steps:List StpD) (t:Nat):Nat→Int
 | 0=>((35+8*zl l:Nat):Int)
 | 1=>3+yT (ints (yU 4)) (ints (List.replicate 32 5)) (zh l)
 | _=>((3+(14+3*t+szT lens steps):Nat):Int)+yT (ints lits) (ints backs) (zh l)
end Go.Proofs.YtfkcdnaghndgfaaGreatDoor
namespace Go.Proofs.YtfkcdnaghndgfaaGreatDoor
open Go.RowKit
attribute [local go_sem] Oper.semAt_some
theorem kG {w:World} {e:TypeId} {size n k:Nat} {v:Value} {xs:List Value} (h:Row w e size v n xs) (hk:v.ownBlock=some k) : ∃ cs fr,w.heap[k]? =some (.cells cs e fr):=by
 rcases h.2 with ⟨rfl,rfl⟩ | ⟨g',cap,cur,rfl,hb,hh,_⟩
 · simp [Value.ownBlock] at hk
 · simp [Value.ownBlock] at hk
   subst hk
   exact ⟨_,_,hh⟩
theorem WrAt.apart {w:World} {b m k:Nat} {v:Value} {L:List Bool} {T:TypeId} {cs:Array Value} {fr:Nat×Nat} (h:WrAt w b v L m) (hk:w.heap[k]? =some (.cells cs T fr)) (h1:T≠118) (h2:T≠5):k∉zZ b v:=fun hm=>by
 rcases List.mem_cons.1 hm with h3 | h3
 · subst h3
   have:=h.blk
   unfold Blk at this
   rw [this] at hk
   simp at hk
   exact h1 hk.2.1.symm
 · obtain ⟨cs',fr',h4⟩:=kG h.row (k:=k) (by simpa using h3)
   rw [h4] at hk
   simp at hk
   exact h2 hk.2.1.symm
theorem zgS {w:World} {b:Nat} {cs:List Value} {t:TypeId} (h:Blk w b cs t):w.heap[b]? =some (.cells cs.toArray t (0,0)):=h
def zfZ (l:List Tok) (n:Nat) (k:Int):Prop:=k<0∨2<k∨(k=0∧(0<xF l∨65535<n))
theorem zc2 (m1 m2 t:Nat) (lens:List Nat) (steps:List StpD) (ht:t≤19) (hl : ∀ x∈lens,x≤15) (hs : ∀ s∈steps,s.bits≤7):(vr m1 m2 t lens steps).length≤71+22*steps.length:=by
 have h1:=kz lens t ht
 have h2:=Yc lens hl steps hs
 unfold vr XK
 simp only [List.length_append,ze]
 omega
def zcN (w:World) (b:Nat) (v:Value) (L:List Bool) (l:List Tok) (k:Nat) (last:Bool) (e:Ending) (w':World):Prop:=e = .returned (.bool true) ∧ ∃ v' M,qh L l k last M∧WS w b v w' v' M
theorem zdB (s:Nat):Qj s≤7:=by unfold Qj; split; omega; split; omega; split<;>omega
theorem zd0 {l:List Tok} {lits backs lens:List Nat} {steps:List StpD} (h:MadeL l lits backs steps lens) (hb : ∀ s∈steps,s.sym<19∧s.bits≤7) : ∀ s∈steps,lens.getD s.sym 0≠0∧s.bits≤7∧s.more<256:=by
 intro s hs
 obtain ⟨i,hi,rfl⟩:=List.getElem_of_mem hs
 have h1:=Wp steps [] h.dec.1 i hi
 have h2:=h.sy _ hs
 have h3:2^Qj steps[i].sym≤2^7:=Nat.pow_le_pow_right (by omega) (zdB _)
 have h4:=h1.more
 exact ⟨by omega,(hb _ hs).2,by omega⟩
set_option maxRecDepth 100000 in
set_option maxHeartbeats 12800000 in
theorem zbE (l:List Tok) (b:Nat) (v:Value) (L:List Bool) (a:Option Addr) (n cap k:Nat) (last LST:Bool) (hLST:LST=last) (w:World) (hI : ∀ w',Upd (zZ b v) w w'→TokIn w' a n l)
 (hW:WrAt w b v L (L.length/8)) (hL:L.length≤50000000000) (hn:n≤100000) (hok : ∀ t∈l,zo t) (hk:k≤2) (hg : ¬ zfZ l n (k:Nat)) :
 Calls Tryz.prog 78 #[.pointer (some ⟨b,0,none⟩),.slice a n cap,.int .i64 (k:Nat),.bool last] w (zcN w b v L l k LST):=by
 have HC:=Lib.hid (zaa l a n cap w (hI w (Upd.refl _ _)) hn)
 have hfl:xF l≤n:=by have:=zcS l; rw [(hI w (Upd.refl _ _)).len] at this; exact this
 have HI:=Lib.hid hI
 have HOK:=Lib.hid hok
 have HML:=Lib.hid (by have:=xt l l.length (Nat.le_refl _); rw [List.take_length] at this; exact And.intro this.la this.lb)
 have HW:=Lib.hid (WS.refl hW)
 unfold zcP at HC
 have hg2:k=0→xF l=0∧n≤65535:=fun h=>by
  unfold zfZ at hg
  omega
 have HG:=Lib.hid hg2
 generalize QI l=A at *
 generalize xF l=B at *
 have hB0:k=0 → ¬ (0:Int)<(B:Int):=fun h=>by have:=hg2 h; omega
 have hN0:k=0 → ¬ (65535:Int)<(n:Int):=fun h=>by have:=hg2 h; omega
 have HB0:=Lib.hid hB0
 have HN0:=Lib.hid hN0
 clear hI hok hW hg hg2 hB0 hN0
 have hkz : ¬ (2:Int)<(k:Int):=by omega
 have hkz0 : ¬ (k:Int)<0:=by omega
 obtain ⟨lb,hlb⟩ : ∃ lb:Nat,(if LST then 1 else 0)=lb:=⟨_,rfl⟩
 have hlb2:lb<2:=by rw [← hlb]; split<;>omega
 have HLB:=Lib.hid hlb
 rcases (by omega:k=0∨k=1∨k=2) with rfl | rfl | rfl
 · have hb1:=HB0.out rfl
   have hb2:=HN0.out rfl
   go_enter Tryz.func78,Tryz.ntmps78
   go_wp2_with fail
   refine HC.out.mono ?_
   rintro e w1 ⟨rfl,hU1⟩
   have HW1:=Lib.hid (HW.out.pure hU1)
   have HBX:=Lib.hid (fun (x:Int) (hx:x=(lb:Nat))=>yp b lb x 1 1 w1 v L hx (by omega) HW1.out.at_ (by omega) (by omega) (Lib.hid (by omega)))
   clear hU1 HC HW
   have HLST:=Lib.hid hLST
   clear hLST
   rcases (by cases last<;>simp:last=true∨last=false) with rfl | rfl
   all_goals
    go_wp2_with fail
    refine (HBX.out _ (by have h1:=HLB.out; have h2:=HLST.out; rw [h2] at h1; simp at h1; omega)).mono ?_
    rintro e w2 ⟨rfl,v2,h1',h2',h3⟩
    have HW2:=Lib.hid (HW1.out.step h1' h2' h3)
    clear h1' h2' h3 HBX
    have hl2:(L++low 1 lb).length≤50000000001:=by rw [List.length_append,ze]; omega
    obtain ⟨L2,hL2⟩ : ∃ L2,L++low 1 lb=L2:=⟨_,rfl⟩
    rw [hL2] at HW2 hl2
    have hxc:IntKind.u32.wrap ((0:Nat):Int)=((0:Nat):Int):=by decide
    have hxc':(((0:Nat):Int)%4294967296)=((0:Nat):Int):=by omega
    have HBX:=Lib.hid (yp b 0 ((0:Nat):Int) 2 2 w2 v2 L2 rfl (by omega) HW2.out.at_ (by omega) (by omega) (Lib.hid (by omega)))
    have HHK:Hid (yn L 0 LST=L2++low 2 0):=Lib.hid (by unfold yn; rw [hlb,hL2])
    clear hL2 HW1 hlb
    go_wp2_with fail
    refine HBX.out.mono ?_
    rintro e w3 ⟨rfl,v3,h1',h2',h3⟩
    have HW3:=Lib.hid (HW2.out.step h1' h2' h3)
    rw [← HHK.out] at HW3
    have hl3:(yn L 0 LST).length≤50000000003:=by rw [HHK.out,List.length_append,ze]; omega
    clear h1' h2' h3 HBX HW2 hxc hxc'
    have HS:=Lib.hid (zbd l b v3 (yn L 0 LST) a n cap w3 (fun w' h=>HI.out w' (HW3.out.fp h)) HW3.out.at_ (by omega) (by first | exact (HG.out rfl).2 | exact (HG.out trivial).2))
    clear HB0 HN0 hb1 hb2
    go_wp2_with fail
    refine HS.out.mono ?_
    rintro e w4 ⟨rfl,v4,h4⟩
    have HW4:=Lib.hid (HW3.out.step h4.at_ h4.upd h4.later)
    clear h4 HS
    go_wp2
    go_ret
    exact ⟨rfl,v4,_,.inl ⟨rfl,rfl⟩,HW4.out⟩
 · go_enter Tryz.func78,Tryz.ntmps78
   go_wp2_with fail
   refine HC.out.mono ?_
   rintro e w1 ⟨rfl,hU1⟩
   have HW1:=Lib.hid (HW.out.pure hU1)
   have HBX:=Lib.hid (fun (x:Int) (hx:x=(lb:Nat))=>yp b lb x 1 1 w1 v L hx (by omega) HW1.out.at_ (by omega) (by omega) (Lib.hid (by omega)))
   clear hU1 HC HW
   have HLST:=Lib.hid hLST
   clear hLST
   rcases (by cases last<;>simp:last=true∨last=false) with rfl | rfl
   all_goals
    go_wp2_with fail
    refine (HBX.out _ (by have h1:=HLB.out; have h2:=HLST.out; rw [h2] at h1; simp at h1; omega)).mono ?_
    rintro e w2 ⟨rfl,v2,h1',h2',h3⟩
    have HW2:=Lib.hid (HW1.out.step h1' h2' h3)
    clear h1' h2' h3 HBX
    have hl2:(L++low 1 lb).length≤50000000001:=by rw [List.length_append,ze]; omega
    obtain ⟨L2,hL2⟩ : ∃ L2,L++low 1 lb=L2:=⟨_,rfl⟩
    rw [hL2] at HW2 hl2
    have hxc:IntKind.u32.wrap ((1:Nat):Int)=((1:Nat):Int):=by decide
    have hxc':(((1:Nat):Int)%4294967296)=((1:Nat):Int):=by omega
    have HBX:=Lib.hid (yp b 1 ((1:Nat):Int) 2 2 w2 v2 L2 rfl (by omega) HW2.out.at_ (by omega) (by omega) (Lib.hid (by omega)))
    have HHK:Hid (yn L 1 LST=L2++low 2 1):=Lib.hid (by unfold yn; rw [hlb,hL2])
    clear hL2 HW1 hlb
    go_wp2_with fail
    refine HBX.out.mono ?_
    rintro e w3 ⟨rfl,v3,h1',h2',h3⟩
    have HW3:=Lib.hid (HW2.out.step h1' h2' h3)
    rw [← HHK.out] at HW3
    have hl3:(yn L 1 LST).length≤50000000003:=by rw [HHK.out,List.length_append,ze]; omega
    clear h1' h2' h3 HBX HW2 hxc hxc'
    clear HB0 HN0
    go_wp2_with fail
    refine (Zb _).mono ?_
    rintro e w4 ⟨f1,d1,f2,rfl,hF1,hF2,hU4,_,_⟩
    have HW4:=Lib.hid (HW3.out.pure hU4)
    obtain ⟨cs1,fr1,hh1⟩:=kG hF1 (k:=f1) rfl
    obtain ⟨cs2,fr2,hh2⟩:=kG hF2 (k:=f2) rfl
    have hn1:=HW4.out.at_.apart hh1 (by decide) (by decide)
    have hn2:=HW4.out.at_.apart hh2 (by decide) (by decide)
    have hI1:IntsIn w4 (some ⟨f1,0,none⟩) 288 (ints (yU 4)):=IntsIn.row hF1 (fun x hx=>by have:=vC.1 x hx; omega)
    have hI2:IntsIn w4 (some ⟨f2,0,none⟩) 32 (ints (List.replicate 32 5)):=IntsIn.row hF2 (fun x hx=>by have:=vC.2.1 x hx; omega)
    have hP:=Xv l HOK.out
    have HS:=Lib.hid (Qt l (yU 4) (List.replicate 32 5) b v3 (yn L 1 LST) a (some ⟨f1,0,none⟩) (some ⟨f2,0,none⟩) n cap 288 d1 32 32 w4 (fun w' h=>HI.out w' (HW4.out.fp h)) (fun w' h=>hI1.upd h (fun b' off e=>by cases e; exact hn1)) (fun w' h=>hI2.upd h (fun b' off e=>by cases e; exact hn2)) HW4.out.at_ (by omega) hn hP.a3 hP.b3 hP.coded HOK.out)
    clear hF1 hF2 hU4 hh1 hh2 hn1 hn2 hI1 hI2 hP HW3
    go_wp2_with fail
    refine HS.out.mono ?_
    rintro e w5 ⟨rfl,v5,h5⟩
    have HW5:=Lib.hid (HW4.out.step h5.at_ h5.upd h5.later)
    clear h5 HS
    go_wp2
    go_ret
    exact ⟨rfl,v5,_,.inr (.inl ⟨rfl,rfl⟩),HW5.out⟩
 · go_enter Tryz.func78,Tryz.ntmps78
   go_wp2_with fail
   refine HC.out.mono ?_
   rintro e w1 ⟨rfl,hU1⟩
   have HW1:=Lib.hid (HW.out.pure hU1)
   have HBX:=Lib.hid (fun (x:Int) (hx:x=(lb:Nat))=>yp b lb x 1 1 w1 v L hx (by omega) HW1.out.at_ (by omega) (by omega) (Lib.hid (by omega)))
   clear hU1 HC HW
   have HLST:=Lib.hid hLST
   clear hLST
   rcases (by cases last<;>simp:last=true∨last=false) with rfl | rfl
   all_goals
    go_wp2_with fail
    refine (HBX.out _ (by have h1:=HLB.out; have h2:=HLST.out; rw [h2] at h1; simp at h1; omega)).mono ?_
    rintro e w2 ⟨rfl,v2,h1',h2',h3⟩
    have HW2:=Lib.hid (HW1.out.step h1' h2' h3)
    clear h1' h2' h3 HBX
    have hl2:(L++low 1 lb).length≤50000000001:=by rw [List.length_append,ze]; omega
    obtain ⟨L2,hL2⟩ : ∃ L2,L++low 1 lb=L2:=⟨_,rfl⟩
    rw [hL2] at HW2 hl2
    have hxc:IntKind.u32.wrap ((2:Nat):Int)=((2:Nat):Int):=by decide
    have hxc':(((2:Nat):Int)%4294967296)=((2:Nat):Int):=by omega
    have HBX:=Lib.hid (yp b 2 ((2:Nat):Int) 2 2 w2 v2 L2 rfl (by omega) HW2.out.at_ (by omega) (by omega) (Lib.hid (by omega)))
    have HHK:Hid (yn L 2 LST=L2++low 2 2):=Lib.hid (by unfold yn; rw [hlb,hL2])
    clear hL2 HW1 hlb
    go_wp2_with fail
    refine HBX.out.mono ?_
    rintro e w3 ⟨rfl,v3,h1',h2',h3⟩
    have HW3:=Lib.hid (HW2.out.step h1' h2' h3)
    rw [← HHK.out] at HW3
    have hl3:(yn L 2 LST).length≤50000000003:=by rw [HHK.out,List.length_append,ze]; omega
    clear h1' h2' h3 HBX HW2 hxc hxc'
    clear HB0 HN0
    have HMM:=Lib.hid (Wv l a n cap w3 (HI.out w3 HW3.out.upd) hn HOK.out)
    go_wp2_with fail
    refine HMM.out.mono ?_
    rintro e w4 ⟨g1,c1,g2,c2,g4,v3',lits,backs,lens,steps,rfl,hM,hR1,hR2,hR3,hB4,hU4⟩
    obtain ⟨va,vc,rfl⟩:=hR3.form
    obtain ⟨m1b,m1b',m2b,m2b',x15,y15,hsy0,hl7,hl19,hsl⟩:=hM.bd HML.out
    have hlaw:=hM.law HML.out HOK.out
    have hP:=hM.plan HML.out HOK.out
    have HW4:=Lib.hid (HW3.out.pure hU4)
    have hPn:=ku HW4.out (Nat.le_refl w4.heap.size)
    have hU5:Upd [] w4 (w4.alloc (.cells #[.slice (some ⟨g1,0,none⟩) lits.length c1,.slice (some ⟨g2,0,none⟩) backs.length c2,.slice va steps.length vc,.slice (some ⟨g4,0,none⟩) 19 19] 177)):=(Upd.refl [] w4).alloc _
    have hP5:=Blk.new w4 [.slice (some ⟨g1,0,none⟩) lits.length c1,.slice (some ⟨g2,0,none⟩) backs.length c2,.slice va steps.length vc,.slice (some ⟨g4,0,none⟩) 19 19] 177
    have HW5:=Lib.hid (HW4.out.pure hU5)
    have hR1':=hR1.upd hU5 (by simp)
    have hR2':=hR2.upd hU5 (by simp)
    have hR3':=hR3.upd hU5 (by simp)
    have hB4':=hB4.upd hU5 (by simp)
    clear hR1 hR2 hR3 hB4 hU5 hU4 HMM HW3
    go_upto_region 10 with fail
    change Code.wp _ _ _ _ (w4.alloc (.cells #[.slice (some ⟨g1,0,none⟩) lits.length c1,.slice (some ⟨g2,0,none⟩) backs.length c2,.slice va steps.length vc,.slice (some ⟨g4,0,none⟩) 19 19] 177))
    generalize w4.alloc (.cells #[.slice (some ⟨g1,0,none⟩) lits.length c1,.slice (some ⟨g2,0,none⟩) backs.length c2,.slice va steps.length vc,.slice (some ⟨g4,0,none⟩) 19 19] 177)=w5 at *
    generalize w4.heap.size=pb at *
    have n4:=HW5.out.at_.apart (zgS hB4') (by decide) (by decide)
    have hIn:IntsIn w5 (some ⟨g4,0,none⟩) 19 (ints lens):=IntsIn.blk hB4' hl19 (fun x hx=>by have:=hl7 x hx; omega)
    have n3 : ∀ bb off,va=some ⟨bb,off,none⟩→bb∉zZ b v3:=fun bb off e=>by
     subst e
     obtain ⟨cs,fr,hh⟩:=kG hR3' (k:=bb) rfl
     exact HW5.out.at_.apart hh (by decide) (by decide)
    have hSt:StpIn w5 va steps.length steps:=StpIn.row hR3' rfl
    have HTB:=Lib.hid (Wx lens steps b v3 (yn L 2 LST) (some ⟨g1,0,none⟩) (some ⟨g2,0,none⟩) va (some ⟨g4,0,none⟩) lits.length backs.length steps.length c1 c2 vc 19 w5
     (fun w' h=>hIn.upd h (fun b' off e=>by cases e; exact n4)) (fun w' h=>hSt.updF h n3) HW5.out.at_ (by omega) (by omega) ⟨m1b,m1b'⟩ ⟨m2b,m2b'⟩ (by rw [hlaw.okC]; omega) (zd0 hlaw hsy0) (fun j=>ke hl7 j))
    have kA:=hP5.all
    have HP5:=Lib.hid hP5
    have HPN:=Lib.hid hPn
    have HR1:=Lib.hid hR1'
    have HR2:=Lib.hid hR2'
    have HM:=Lib.hid hM
    have HPL:=Lib.hid hP
    have HX15:=Lib.hid x15
    have HY15:=Lib.hid y15
    have HTL:=Lib.hid (fun t (ht:ToldO lens t)=>zc2 lits.length backs.length t lens steps ht.hi (fun x hx=>by have:=hl7 x hx; omega) (fun s hs=>(hsy0 s hs).2))
    clear hP5 hPn hR1' hR2' hR3' hB4' n4 n3 hIn hSt hM hP hlaw x15 y15 hsy0 hl7 hl19 HW4
    go_wp2_with fail
    refine HTB.out.mono ?_
    rintro e w6 ⟨rfl,v6,t,ht,h6⟩
    have HW6:=Lib.hid (HW5.out.step h6.at_ h6.upd h6.later)
    have hP6:=HP5.out.upd h6.upd HPN.out
    have hR1:=HR1.out
    have hR2:=HR2.out
    obtain ⟨cs1,fr1,hh1⟩:=kG hR1 (k:=g1) rfl
    obtain ⟨cs2,fr2,hh2⟩:=kG hR2 (k:=g2) rfl
    have n1:=HW5.out.at_.apart hh1 (by decide) (by decide)
    have n2:=HW5.out.at_.apart hh2 (by decide) (by decide)
    have hR16:=hR1.upd h6.upd (fun k hk=>by simp [Value.ownBlock] at hk; subst hk; exact n1)
    have hR26:=hR2.upd h6.upd (fun k hk=>by simp [Value.ownBlock] at hk; subst hk; exact n2)
    have m1':=yo n1 (hR1.lt g1 rfl) h6.later
    have m2':=yo n2 (hR2.lt g2 rfl) h6.later
    have hI1:IntsIn w6 (some ⟨g1,0,none⟩) lits.length (ints lits):=IntsIn.row hR16 (fun x hx=>by have:=HX15.out x hx; omega)
    have hI2:IntsIn w6 (some ⟨g2,0,none⟩) backs.length (ints backs):=IntsIn.row hR26 (fun x hx=>by have:=HY15.out x hx; omega)
    have htl:=HTL.out t ht
    have HT:=Lib.hid ht
    have HS:=Lib.hid (Qt l lits backs b v6 (yn L 2 LST++vr lits.length backs.length t lens steps) a (some ⟨g1,0,none⟩) (some ⟨g2,0,none⟩) n cap lits.length c1 backs.length c2 w6 (fun w' h=>HI.out w' (HW6.out.fp h)) (fun w' h=>hI1.upd h (fun b' off e=>by cases e; exact m1')) (fun w' h=>hI2.upd h (fun b' off e=>by cases e; exact m2')) HW6.out.at_ (by rw [List.length_append]; omega) hn HPL.out.a3 HPL.out.b3 HPL.out.coded HOK.out)
    clear kA
    have kA:=hP6.all
    clear h6 hP6 hR1 hR2 hh1 hh2 n1 n2 hR16 hR26 m1' m2' hI1 hI2 ht HTB HW5 htl HTL
    go_wp2_with fail
    refine HS.out.mono ?_
    rintro e w7 ⟨rfl,v7,h7⟩
    have HW7:=Lib.hid (HW6.out.step h7.at_ h7.upd h7.later)
    clear h7 HS kA
    go_wp2
    go_ret
    exact ⟨rfl,v7,_,.inr (.inr ⟨rfl,lits,backs,steps,lens,t,HM.out,HT.out,rfl⟩),HW7.out⟩
theorem Xc (l:List Tok) (b:Nat) (v:Value) (L:List Bool) (a:Option Addr) (n cap k:Nat) (last:Bool) (w:World) (hI : ∀ w',Upd (zZ b v) w w'→TokIn w' a n l)
 (hW:WrAt w b v L (L.length/8)) (hL:L.length≤50000000000) (hn:n≤100000) (hok : ∀ t∈l,zo t) (hk:k≤2) (hg : ¬ zfZ l n (k:Nat)) :
 Calls Tryz.prog 78 #[.pointer (some ⟨b,0,none⟩),.slice a n cap,.int .i64 (k:Nat),.bool last] w (zcN w b v L l k last):=zbE l b v L a n cap k last last rfl w hI hW hL hn hok hk hg
end Go.Proofs.YtfkcdnaghndgfaaGreatDoor
