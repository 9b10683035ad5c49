/- A plan's lengths have a code for every symbol that comes (plain). -/
import Derived.Test.YtfkcdnaghndgfaaGreatDoorQBS
import Derived.Test.YtfkcdnaghndgfaaGreatDoorQBT
import Derived.Test.YtfkcdnaghndgfaaGreatDoorQBR
import Derived.Lib.SliceRun
import Derived.Test.YtfkcdnaghndgfaaGreatDoorQBN
set_option linter.unusedVariables false
set_option linter.unusedSimpArgs false
set_option linter.unusedSectionVars false
namespace Go.Proofs.YtfkcdnaghndgfaaGreatDoor
theorem Vk : ∀ (m s:Nat),s<m→yy ((List.replicate m 0).set s 1)=16384
 | m+1,0,_=>by
   rw [List.replicate_succ,List.set_cons_zero]
   have:=Qw (List.replicate m 0) (fun x hx=>List.eq_of_mem_replicate hx)
   unfold yy at *
   rw [List.map_cons,List.sum_cons,this]
   rfl
 | m+1,s+1,h=>by
   rw [List.replicate_succ,List.set_cons_succ]
   have:=Vk m s (by omega)
   unfold yy at *
   rw [List.map_cons,List.sum_cons,this]
   rfl
theorem Vv {many:List Int} {n m:Nat} {u:List Nat} {least:Int} (hn:many.length=n) (h300:n≤300) (hu:IsUsed many n u) (hm:TrimO (ofL many u 15 n) least n m) :
 zg (ints ((ofL many u 15 n).take m))≠3∧(u≠[]→zg (ints ((ofL many u 15 n).take m))≠0):=by
 have hk:u.length≤2^15:=by have:=hu.le; omega
 have hf:=Je hn hu 15 (by omega) (by omega) hk
 have hl:=qT many u 15 n
 have h15:=JH hn hu (L:=15) (by omega) (by omega) hk
 have ho:yG (ints ((ofL many u 15 n).take m))=true:=Kg (by rw [List.length_take]; omega) (fun x hx=>h15 x (List.mem_of_mem_take hx))
 have hw:=Vb hm hl
 have hk2:zg (ints ((ofL many u 15 n).take m))=jo ((ofL many u 15 n).take m):=by unfold zg; rw [if_pos ho,WH]
 rw [hk2]
 unfold jo
 rw [hw]
 rcases Nat.lt_or_ge u.length 2 with h2 | h2
 · rcases Nat.lt_or_ge u.length 1 with h1 | h1
   · have hu0:u=[]:=List.eq_nil_of_length_eq_zero (by omega)
     rw [hf.none hu0,if_pos rfl]
     exact ⟨by omega,fun h=>absurd hu0 h⟩
   · obtain ⟨s,rfl⟩:=List.length_eq_one_iff.1 (show u.length=1 by omega)
     have hs:s<n:=((hu.mem s).1 (by simp)).1
     have e0:ofL many [s] 15 n=(List.replicate n 0).set s 1:=by simp [ofL]
     rw [e0,Vk n s hs]
     exact ⟨by decide,fun _=>by decide⟩
 · rw [hf.two h2]
   exact ⟨by decide,fun _=>by decide⟩
theorem KZ {l:List Nat} {least:Int} {n m j:Nat} (h:TrimO l least n m) (hl:l.length=n) (hj:l.getD j 0≠0):(l.take m).getD j 0=l.getD j 0:=by
 have hjn:j<n:=by
  rcases Nat.lt_or_ge j n with h1 | h1
  · exact h1
  · rw [List.getD_eq_getElem?_getD,List.getElem?_eq_none (by omega)] at hj
    exact absurd rfl hj
 have hjm:j<m:=by
  rcases Nat.lt_or_ge j m with h1 | h1
  · exact h1
  · exact absurd (h.zero j h1 hjn) hj
 rw [List.getD_eq_getElem?_getD,List.getElem?_take,if_pos hjm,List.getD_eq_getElem?_getD]
theorem zaR (p:List Nat×List Nat) (t:Tok) (hl:p.1.length=286) (h2:p.2.length=30) (ht:zH t) (j:Nat):p.1.getD j 0≤(jI p t).1.getD j 0∧p.2.getD j 0≤(jI p t).2.getD j 0:=by
 constructor
 · show p.1.getD j 0≤(xF p.1 (qn t)).getD j 0
   rw [qO _ _ _ (by rw [hl]; exact kL ht)]
   omega
 · show p.2.getD j 0≤(if t.long=0 then p.2 else xF p.2 (qM t)).getD j 0
   split
   · exact Nat.le_refl _
   · rename_i h0
     rw [qO _ _ _ (by rw [h2]; exact kP ht h0)]
     omega
theorem zad (l:List Tok) (hok : ∀ t∈l,zH t) : ∀ i,i≤l.length → ∀ t∈l.take i,1≤(zo (l.take i)).1.getD (qn t) 0∧(t.long≠0→1≤(zo (l.take i)).2.getD (qM t) 0)
 | 0,_,t,ht=>by simp at ht
 | i+1,h,t,ht=>by
   have hil:i<l.length:=by omega
   have ho:=qt l i (by omega)
   have hu:=hok l[i] (List.getElem_mem hil)
   rw [List.take_succ_eq_append_getElem hil] at ht ⊢
   rw [jT]
   rcases List.mem_append.1 ht with h1 | h1
   · obtain ⟨a,b⟩:=zad l hok i (by omega) t h1
     obtain ⟨c,_⟩:=zaR _ _ ho.la ho.lb hu (qn t)
     obtain ⟨_,d⟩:=zaR _ _ ho.la ho.lb hu (qM t)
     exact ⟨Nat.le_trans a c,fun h0=>Nat.le_trans (b h0) d⟩
   · rw [List.mem_singleton] at h1
     subst h1
     constructor
     · show 1≤(xF (zo (l.take i)).1 (qn l[i])).getD (qn l[i]) 0
       rw [qO _ _ _ (by rw [ho.la]; exact kL hu),if_pos rfl]
       omega
     · intro h0
       show 1≤(if l[i].long=0 then (zo (l.take i)).2 else xF (zo (l.take i)).2 (qM l[i])).getD (qM l[i]) 0
       rw [if_neg h0,qO _ _ _ (by rw [ho.lb]; exact kP hu h0),if_pos rfl]
       omega
structure PlanOk (l:List Tok) (lits backs:List Nat):Prop where
 coded:Coded lits backs l
 a3:zg (ints lits)≠3
 a0:zg (ints lits)≠0
 b3:zg (ints backs)≠3
 b0:(∃ t∈l,t.long≠0)→zg (ints backs)≠0
theorem MadeO.plan {l:List Tok} {lits backs lens:List Nat} {steps:List StpD} (h:MadeO l lits backs steps lens) (hl:(zo l).1.length=286∧(zo l).2.length=30) (hok : ∀ t∈l,zH t):PlanOk l lits backs:=by
 obtain ⟨u1,m1,hu1,ht1,e1⟩:=h.a
 obtain ⟨u2,m2,hu2,ht2,e2⟩:=h.b
 have i1:(ints (zo l).1).length=286:=by simp [ints,hl.1]
 have i2:(ints (zo l).2).length=30:=by simp [ints,hl.2]
 have f1:=Je i1 hu1 15 (by omega) (by omega) (by have:=hu1.le; omega)
 have f2:=Je i2 hu2 15 (by omega) (by omega) (by have:=hu2.le; omega)
 have l1:=qT (ints (zo l).1) u1 15 286
 have l2:=qT (ints (zo l).2) u2 15 30
 have hm : ∀ t∈l,1≤(zo l).1.getD (qn t) 0∧(t.long≠0→1≤(zo l).2.getD (qM t) 0):=fun t ht=>by
  have:=zad l hok l.length (Nat.le_refl _) t (by rw [List.take_length]; exact ht)
  rwa [List.take_length] at this
 have h256:1≤(zo l).1.getD 256 0:=by have:=Yf l hok l.length (Nat.le_refl _); rwa [List.take_length] at this
 have ga : ∀ j,j<286→1≤(zo l).1.getD j 0→lits.getD j 0≠0:=fun j hj hx=>by
  have h1:=(f1.iff j hj).2 (by rw [zY]; omega)
  rw [e1,KZ ht1 l1 (by omega)]
  omega
 have gb : ∀ j,j<30→1≤(zo l).2.getD j 0→backs.getD j 0≠0:=fun j hj hx=>by
  have h1:=(f2.iff j hj).2 (by rw [zY]; omega)
  rw [e2,KZ ht2 l2 (by omega)]
  omega
 have c1:=Vv i1 (by omega) hu1 ht1
 have c2:=Vv i2 (by omega) hu2 ht2
 rw [← e1] at c1
 rw [← e2] at c2
 refine ⟨⟨ga 256 (by omega) h256,fun t ht=>ga _ (kL (hok t ht)) (hm t ht).1,fun t ht h0=>gb _ (kP (hok t ht) h0) ((hm t ht).2 h0)⟩,c1.1,c1.2 ?_,c2.1,fun ⟨t,ht,h0⟩=>c2.2 ?_⟩
 · intro e
   have:=(hu1.mem 256).2 ⟨by omega,by rw [zY]; omega⟩
   rw [e] at this
   simp at this
 · intro e
   have:=(hu2.mem (qM t)).2 ⟨kP (hok t ht) h0,by rw [zY]; have:=(hm t ht).2 h0; omega⟩
   rw [e] at this
   simp at this
theorem zaE : ∀ j:Fin 288,(xG 4).getD j.val 0≠0:=by decide +kernel
theorem Jh:zg (ints (xG 4))=1∧zg (ints (List.replicate 32 5))=1:=by decide +kernel
theorem zfF (l:List Tok) (hok : ∀ t∈l,zH t):PlanOk l (xG 4) (List.replicate 32 5):=by
 have hb : ∀ j,j<30→(List.replicate 32 5).getD j 0≠0:=fun j hj=>by
  rw [List.getD_eq_getElem?_getD,List.getElem?_replicate,if_pos (by omega)]
  simp
 refine ⟨⟨zaE ⟨256,by omega⟩,fun t ht=>zaE ⟨qn t,by have:=kL (hok t ht); omega⟩,fun t ht h0=>hb _ (kP (hok t ht) h0)⟩,?_,?_,?_,fun _=>?_⟩
 · rw [Jh.1]; omega
 · rw [Jh.1]; omega
 · rw [Jh.2]; omega
 · rw [Jh.2]; omega
def qG (L:List Bool) (kind:Nat) (last:Bool):List Bool:=L++low 1 (if last then 1 else 0)++low 2 kind
def Ko (L:List Bool) (l:List Tok) (kind:Nat) (last:Bool) (M:List Bool):Prop :=
 (kind=0∧M=XK (qG L 0 last) (xt l))∨(kind=1∧M=qG L 1 last++XI (xG 4) (List.replicate 32 5) l) ∨
 (kind=2 ∧ ∃ lits backs steps lens t,MadeO l lits backs steps lens∧ToldO lens t∧M=qG L 2 last++zbT lits.length backs.length t lens steps++XI lits backs l)
end Go.Proofs.YtfkcdnaghndgfaaGreatDoor
namespace Go.Proofs.YtfkcdnaghndgfaaGreatDoor
theorem zea (na nb:List Nat) (t:Tok):(((ZG na nb t).length:Nat):Int)=qz (ints na) (ints nb) t:=by
 unfold ZG qz
 by_cases h0:t.long=0
 · rw [if_pos h0,if_pos h0,xM,zY]
 · rw [if_neg h0,if_neg h0]
   simp only [List.length_append,xM,zk]
   rw [zY,zY]
   have h1:qn t=257+(zP t.long.toNat 29 0).getD 0:=by unfold qn; rw [if_neg h0]
   have h2:qM t=(jb t.back.toNat 30 0).getD 0:=rfl
   rw [h1,h2]
   omega
theorem Vt (na nb:List Nat) : ∀ (l:List Tok) (x:Int),l.foldl (fun n t=>n+qz (ints na) (ints nb) t) x=x+((xL na nb l).length:Nat)
 | [],x=>by simp [xL]
 | t::l,x=>by
   have e:xL na nb (t::l)=ZG na nb t++xL na nb l:=by unfold xL; rw [List.flatMap_cons]
   rw [List.foldl_cons,Vt na nb l,e,List.length_append,← zea]
   omega
theorem Yq (na nb:List Nat) (l:List Tok):(((XI na nb l).length:Nat):Int)=kW (ints na) (ints nb) l:=by
 rw [Jv,List.length_append,xM]
 unfold kW
 rw [Vt,zY]
 omega
theorem TrimO.uniq {l:List Nat} {least:Int} {n m k:Nat} (h:TrimO l least n m) (g:TrimO l least n k):m=k:=by
 have key : ∀ {m k:Nat},TrimO l least n m→TrimO l least n k → ¬ m<k:=fun {m k} h g hlt=>by
  rcases g.last with h1 | h1 | h1
  · omega
  · rcases h.few with h2 | h2
    · have:=g.le; omega
    · omega
  · exact h1 (h.zero (k-1) (by omega) (by have:=g.le; omega))
 have:=key h g
 have:=key g h
 omega
theorem MadeO.uniq {l:List Tok} {a b c d:List Nat} {s r:List StpD} {e f:List Nat} (h:MadeO l a b s e) (g:MadeO l c d r f):a=c∧b=d∧s=r∧e=f:=by
 obtain ⟨u1,m1,h1,h2,h3⟩:=h.a
 obtain ⟨u2,m2,g1,g2,g3⟩:=g.a
 obtain rfl:=h1.uniq g1
 obtain rfl:=h2.uniq g2
 have ea:a=c:=by rw [h3,g3]
 obtain ⟨v1,k1,p1,p2,p3⟩:=h.b
 obtain ⟨v2,k2,q1,q2,q3⟩:=g.b
 obtain rfl:=p1.uniq q1
 obtain rfl:=p2.uniq q2
 have eb:b=d:=by rw [p3,q3]
 have es:s=r:=by rw [h.s,g.s,ea,eb]
 subst ea eb es
 obtain ⟨x1,r1,r2⟩:=h.c
 obtain ⟨x2,t1,t2⟩:=g.c
 obtain rfl:=r1.uniq t1
 exact ⟨rfl,rfl,rfl,by rw [r2,t2]⟩
theorem YV : ∀ (l:List Tok),(∀ t∈l,zH t)→l.length≤zx l∧(zx l=l.length↔jt l=0)
 | [],_=>⟨Nat.le_refl _,by simp [zx,jt]⟩
 | t::l,hok=>by
   have ht:=hok t List.mem_cons_self
   have e:zx (t::l)=xJ t+zx l:=by unfold zx; rw [List.map_cons,List.sum_cons]
   obtain ⟨h1,h2⟩:=YV l (fun u hu=>hok u (List.mem_cons_of_mem _ hu))
   have hf:jt (t::l)=jt l+if t.long=0 then 0 else 1:=by
    unfold jt
    rw [List.countP_cons]
    by_cases h0:t.long=0<;>simp [h0]
   unfold zH at ht
   rw [e,hf,List.length_cons]
   by_cases h0:t.long=0
   · have e2:xJ t=1:=by unfold xJ; rw [if_pos (by omega)]
     rw [e2,if_pos h0]
     refine ⟨by omega,?_⟩
     rw [Nat.add_zero]
     exact ⟨fun h=>h2.1 (by omega),fun h=>by have:=h2.2 h; omega⟩
   · have e2:xJ t=t.long.toNat:=by unfold xJ; rw [if_neg (by omega)]
     rw [e2,if_neg h0]
     exact ⟨by omega,by constructor<;>intro h<;>omega⟩
theorem Xu (L:List Bool) (k:Nat) (last:Bool):(qG L k last).length=L.length+3:=by unfold qG; rw [List.length_append,List.length_append,zk,zk]
end Go.Proofs.YtfkcdnaghndgfaaGreatDoor
namespace Go.Proofs.YtfkcdnaghndgfaaGreatDoor
open Go.RowKit
attribute [local go_sem] Oper.semAt_some
theorem kK {w:World} {e:TypeId} {size n k:Nat} {v:Value} {xs:List Value} (h:Row w e size v n xs) (hk:v.ownBlock=some k) : ∃ cs fr,w.heap[k]? =some (.cells cs e fr):=by
 rcases h.2 with ⟨rfl,rfl⟩ | ⟨g',cap,cur,rfl,hb,hh,_⟩
 · simp [Value.ownBlock] at hk
 · simp [Value.ownBlock] at hk
   subst hk
   exact ⟨_,_,hh⟩
theorem WrAt.apart {w:World} {b m k:Nat} {v:Value} {L:List Bool} {T:TypeId} {cs:Array Value} {fr:Nat×Nat} (h:WrAt w b v L m) (hk:w.heap[k]? =some (.cells cs T fr)) (h1:T≠118) (h2:T≠5):k∉zU b v:=fun hm=>by
 rcases List.mem_cons.1 hm with h3 | h3
 · subst h3
   have:=h.blk
   unfold Blk at this
   rw [this] at hk
   simp at hk
   exact h1 hk.2.1.symm
 · obtain ⟨cs',fr',h4⟩:=kK h.row (k:=k) (by simpa using h3)
   rw [h4] at hk
   simp at hk
   exact h2 hk.2.1.symm
theorem zg4 {w:World} {b:Nat} {cs:List Value} {t:TypeId} (h:Blk w b cs t):w.heap[b]? =some (.cells cs.toArray t (0,0)):=h
def zgy (l:List Tok) (n:Nat) (k:Int):Prop:=k<0∨2<k∨(k=0∧(0<jt l∨65535<n))
theorem zcQ (m1 m2 t:Nat) (lens:List Nat) (steps:List StpD) (ht:t≤19) (hl : ∀ x∈lens,x≤15) (hs : ∀ s∈steps,s.bits≤7):(zbT m1 m2 t lens steps).length≤71+22*steps.length:=by
 have h1:=Qt lens t ht
 have h2:=Xg lens hl steps hs
 unfold zbT zds
 simp only [List.length_append,zk]
 omega
def zdh (w:World) (b:Nat) (v:Value) (L:List Bool) (l:List Tok) (k:Nat) (last:Bool) (e:Ending) (w':World):Prop:=e = .returned (.bool true) ∧ ∃ v' M,Ko L l k last M∧WS w b v w' v' M
theorem zeb (s:Nat):Zj s≤7:=by unfold Zj; split; omega; split; omega; split<;>omega
theorem zeX {l:List Tok} {lits backs lens:List Nat} {steps:List StpD} (h:MadeL l lits backs steps lens) (hb : ∀ s∈steps,s.sym<19∧s.bits≤7) : ∀ s∈steps,lens.getD s.sym 0≠0∧s.bits≤7∧s.more<256:=by
 intro s hs
 obtain ⟨i,hi,rfl⟩:=List.getElem_of_mem hs
 have h1:=Wi steps [] h.dec.1 i hi
 have h2:=h.sy _ hs
 have h3:2^Zj steps[i].sym≤2^7:=Nat.pow_le_pow_right (by omega) (zeb _)
 have h4:=h1.more
 exact ⟨by omega,(hb _ hs).2,by omega⟩
set_option maxRecDepth 100000 in
set_option maxHeartbeats 12800000 in
theorem zcC (l:List Tok) (b:Nat) (v:Value) (L:List Bool) (a:Option Addr) (n cap k:Nat) (last LST:Bool) (hLST:LST=last) (w:World) (hI : ∀ w',Upd (zU b v) w w'→TokIn w' a n l)
 (hW:WrAt w b v L (L.length/8)) (hL:L.length≤50000000000) (hn:n≤100000) (hok : ∀ t∈l,zH t) (hk:k≤2) (hg : ¬ zgy l n (k:Nat)) :
 Calls Tryz.prog 78 #[.pointer (some ⟨b,0,none⟩),.slice a n cap,.int .i64 (k:Nat),.bool last] w (zdh w b v L l k LST):=by
 have HC:=Lib.hid (WF l a n cap w (hI w (Upd.refl _ _)) hn)
 have hfl:jt l≤n:=by have:=zcP l; rw [(hI w (Upd.refl _ _)).len] at this; exact this
 have HI:=Lib.hid hI
 have HOK:=Lib.hid hok
 have HML:=Lib.hid (by have:=qt l l.length (Nat.le_refl _); rw [List.take_length] at this; exact And.intro this.la this.lb)
 have HW:=Lib.hid (WS.refl hW)
 unfold zdb at HC
 have hg2:k=0→jt l=0∧n≤65535:=fun h=>by
  unfold zgy at hg
  omega
 have HG:=Lib.hid hg2
 generalize QF l=A at *
 generalize jt l=B at *
 have hB0:k=0 → ¬ (0:Int)<(B:Int):=fun h=>by have:=hg2 h; omega
 have hN0:k=0 → ¬ (65535:Int)<(n:Int):=fun h=>by have:=hg2 h; omega
 have HB0:=Lib.hid hB0
 have HN0:=Lib.hid hN0
 clear hI hok hW hg hg2 hB0 hN0
 have hkz : ¬ (2:Int)<(k:Int):=by omega
 have hkz0 : ¬ (k:Int)<0:=by omega
 obtain ⟨lb,hlb⟩ : ∃ lb:Nat,(if LST then 1 else 0)=lb:=⟨_,rfl⟩
 have hlb2:lb<2:=by rw [← hlb]; split<;>omega
 have HLB:=Lib.hid hlb
 rcases (by omega:k=0∨k=1∨k=2) with rfl | rfl | rfl
 · have hb1:=HB0.out rfl
   have hb2:=HN0.out rfl
   go_enter Tryz.func78,Tryz.ntmps78
   go_wp2_with fail
   refine HC.out.mono ?_
   rintro e w1 ⟨rfl,hU1⟩
   have HW1:=Lib.hid (HW.out.pure hU1)
   have HBX:=Lib.hid (fun (x:Int) (hx:x=(lb:Nat))=>yo b lb x 1 1 w1 v L hx (by omega) HW1.out.at_ (by omega) (by omega) (Lib.hid (by omega)))
   clear hU1 HC HW
   have HLST:=Lib.hid hLST
   clear hLST
   rcases (by cases last<;>simp:last=true∨last=false) with rfl | rfl
   all_goals
    go_wp2_with fail
    refine (HBX.out _ (by have h1:=HLB.out; have h2:=HLST.out; rw [h2] at h1; simp at h1; omega)).mono ?_
    rintro e w2 ⟨rfl,v2,h1',h2',h3⟩
    have HW2:=Lib.hid (HW1.out.step h1' h2' h3)
    clear h1' h2' h3 HBX
    have hl2:(L++low 1 lb).length≤50000000001:=by rw [List.length_append,zk]; omega
    obtain ⟨L2,hL2⟩ : ∃ L2,L++low 1 lb=L2:=⟨_,rfl⟩
    rw [hL2] at HW2 hl2
    have hxc:IntKind.u32.wrap ((0:Nat):Int)=((0:Nat):Int):=by decide
    have hxc':(((0:Nat):Int)%4294967296)=((0:Nat):Int):=by omega
    have HBX:=Lib.hid (yo b 0 ((0:Nat):Int) 2 2 w2 v2 L2 rfl (by omega) HW2.out.at_ (by omega) (by omega) (Lib.hid (by omega)))
    have HHK:Hid (qG L 0 LST=L2++low 2 0):=Lib.hid (by unfold qG; rw [hlb,hL2])
    clear hL2 HW1 hlb
    go_wp2_with fail
    refine HBX.out.mono ?_
    rintro e w3 ⟨rfl,v3,h1',h2',h3⟩
    have HW3:=Lib.hid (HW2.out.step h1' h2' h3)
    rw [← HHK.out] at HW3
    have hl3:(qG L 0 LST).length≤50000000003:=by rw [HHK.out,List.length_append,zk]; omega
    clear h1' h2' h3 HBX HW2 hxc hxc'
    have HS:=Lib.hid (zcD l b v3 (qG L 0 LST) a n cap w3 (fun w' h=>HI.out w' (HW3.out.fp h)) HW3.out.at_ (by omega) (by first | exact (HG.out rfl).2 | exact (HG.out trivial).2))
    clear HB0 HN0 hb1 hb2
    go_wp2_with fail
    refine HS.out.mono ?_
    rintro e w4 ⟨rfl,v4,h4⟩
    have HW4:=Lib.hid (HW3.out.step h4.at_ h4.upd h4.later)
    clear h4 HS
    go_wp2
    go_ret
    exact ⟨rfl,v4,_,.inl ⟨rfl,rfl⟩,HW4.out⟩
 · go_enter Tryz.func78,Tryz.ntmps78
   go_wp2_with fail
   refine HC.out.mono ?_
   rintro e w1 ⟨rfl,hU1⟩
   have HW1:=Lib.hid (HW.out.pure hU1)
   have HBX:=Lib.hid (fun (x:Int) (hx:x=(lb:Nat))=>yo b lb x 1 1 w1 v L hx (by omega) HW1.out.at_ (by omega) (by omega) (Lib.hid (by omega)))
   clear hU1 HC HW
   have HLST:=Lib.hid hLST
   clear hLST
   rcases (by cases last<;>simp:last=true∨last=false) with rfl | rfl
   all_goals
    go_wp2_with fail
    refine (HBX.out _ (by have h1:=HLB.out; have h2:=HLST.out; rw [h2] at h1; simp at h1; omega)).mono ?_
    rintro e w2 ⟨rfl,v2,h1',h2',h3⟩
    have HW2:=Lib.hid (HW1.out.step h1' h2' h3)
    clear h1' h2' h3 HBX
    have hl2:(L++low 1 lb).length≤50000000001:=by rw [List.length_append,zk]; omega
    obtain ⟨L2,hL2⟩ : ∃ L2,L++low 1 lb=L2:=⟨_,rfl⟩
    rw [hL2] at HW2 hl2
    have hxc:IntKind.u32.wrap ((1:Nat):Int)=((1:Nat):Int):=by decide
    have hxc':(((1:Nat):Int)%4294967296)=((1:Nat):Int):=by omega
    have HBX:=Lib.hid (yo b 1 ((1:Nat):Int) 2 2 w2 v2 L2 rfl (by omega) HW2.out.at_ (by omega) (by omega) (Lib.hid (by omega)))
    have HHK:Hid (qG L 1 LST=L2++low 2 1):=Lib.hid (by unfold qG; rw [hlb,hL2])
    clear hL2 HW1 hlb
    go_wp2_with fail
    refine HBX.out.mono ?_
    rintro e w3 ⟨rfl,v3,h1',h2',h3⟩
    have HW3:=Lib.hid (HW2.out.step h1' h2' h3)
    rw [← HHK.out] at HW3
    have hl3:(qG L 1 LST).length≤50000000003:=by rw [HHK.out,List.length_append,zk]; omega
    clear h1' h2' h3 HBX HW2 hxc hxc'
    clear HB0 HN0
    go_wp2_with fail
    refine (QB _).mono ?_
    rintro e w4 ⟨f1,d1,f2,rfl,hF1,hF2,hU4,_,_⟩
    have HW4:=Lib.hid (HW3.out.pure hU4)
    obtain ⟨cs1,fr1,hh1⟩:=kK hF1 (k:=f1) rfl
    obtain ⟨cs2,fr2,hh2⟩:=kK hF2 (k:=f2) rfl
    have hn1:=HW4.out.at_.apart hh1 (by decide) (by decide)
    have hn2:=HW4.out.at_.apart hh2 (by decide) (by decide)
    have hI1:IntsIn w4 (some ⟨f1,0,none⟩) 288 (ints (xG 4)):=IntsIn.row hF1 (fun x hx=>by have:=Jk.1 x hx; omega)
    have hI2:IntsIn w4 (some ⟨f2,0,none⟩) 32 (ints (List.replicate 32 5)):=IntsIn.row hF2 (fun x hx=>by have:=Jk.2.1 x hx; omega)
    have hP:=zfF l HOK.out
    have HS:=Lib.hid (Qj l (xG 4) (List.replicate 32 5) b v3 (qG L 1 LST) a (some ⟨f1,0,none⟩) (some ⟨f2,0,none⟩) n cap 288 d1 32 32 w4 (fun w' h=>HI.out w' (HW4.out.fp h)) (fun w' h=>hI1.upd h (fun b' off e=>by cases e; exact hn1)) (fun w' h=>hI2.upd h (fun b' off e=>by cases e; exact hn2)) HW4.out.at_ (by omega) hn hP.a3 hP.b3 hP.coded HOK.out)
    clear hF1 hF2 hU4 hh1 hh2 hn1 hn2 hI1 hI2 hP HW3
    go_wp2_with fail
    refine HS.out.mono ?_
    rintro e w5 ⟨rfl,v5,h5⟩
    have HW5:=Lib.hid (HW4.out.step h5.at_ h5.upd h5.later)
    clear h5 HS
    go_wp2
    go_ret
    exact ⟨rfl,v5,_,.inr (.inl ⟨rfl,rfl⟩),HW5.out⟩
 · go_enter Tryz.func78,Tryz.ntmps78
   go_wp2_with fail
   refine HC.out.mono ?_
   rintro e w1 ⟨rfl,hU1⟩
   have HW1:=Lib.hid (HW.out.pure hU1)
   have HBX:=Lib.hid (fun (x:Int) (hx:x=(lb:Nat))=>yo b lb x 1 1 w1 v L hx (by omega) HW1.out.at_ (by omega) (by omega) (Lib.hid (by omega)))
   clear hU1 HC HW
   have HLST:=Lib.hid hLST
   clear hLST
   rcases (by cases last<;>simp:last=true∨last=false) with rfl | rfl
   all_goals
    go_wp2_with fail
    refine (HBX.out _ (by have h1:=HLB.out; have h2:=HLST.out; rw [h2] at h1; simp at h1; omega)).mono ?_
    rintro e w2 ⟨rfl,v2,h1',h2',h3⟩
    have HW2:=Lib.hid (HW1.out.step h1' h2' h3)
    clear h1' h2' h3 HBX
    have hl2:(L++low 1 lb).length≤50000000001:=by rw [List.length_append,zk]; omega
    obtain ⟨L2,hL2⟩ : ∃ L2,L++low 1 lb=L2:=⟨_,rfl⟩
    rw [hL2] at HW2 hl2
    have hxc:IntKind.u32.wrap ((2:Nat):Int)=((2:Nat):Int):=by decide
    have hxc':(((2:Nat):Int)%4294967296)=((2:Nat):Int):=by omega
    have HBX:=Lib.hid (yo b 2 ((2:Nat):Int) 2 2 w2 v2 L2 rfl (by omega) HW2.out.at_ (by omega) (by omega) (Lib.hid (by omega)))
    have HHK:Hid (qG L 2 LST=L2++low 2 2):=Lib.hid (by unfold qG; rw [hlb,hL2])
    clear hL2 HW1 hlb
    go_wp2_with fail
    refine HBX.out.mono ?_
    rintro e w3 ⟨rfl,v3,h1',h2',h3⟩
    have HW3:=Lib.hid (HW2.out.step h1' h2' h3)
    rw [← HHK.out] at HW3
    have hl3:(qG L 2 LST).length≤50000000003:=by rw [HHK.out,List.length_append,zk]; omega
    clear h1' h2' h3 HBX HW2 hxc hxc'
    clear HB0 HN0
    have HMM:=Lib.hid (Wh l a n cap w3 (HI.out w3 HW3.out.upd) hn HOK.out)
    go_wp2_with fail
    refine HMM.out.mono ?_
    rintro e w4 ⟨g1,c1,g2,c2,g4,v3',lits,backs,lens,steps,rfl,hM,hR1,hR2,hR3,hB4,hU4⟩
    obtain ⟨va,vc,rfl⟩:=hR3.form
    obtain ⟨m1b,m1b',m2b,m2b',x15,y15,hsy0,hl7,hl19,hsl⟩:=hM.bd HML.out
    have hlaw:=hM.law HML.out HOK.out
    have hP:=hM.plan HML.out HOK.out
    have HW4:=Lib.hid (HW3.out.pure hU4)
    have hPn:=kE HW4.out (Nat.le_refl w4.heap.size)
    have hU5:Upd [] w4 (w4.alloc (.cells #[.slice (some ⟨g1,0,none⟩) lits.length c1,.slice (some ⟨g2,0,none⟩) backs.length c2,.slice va steps.length vc,.slice (some ⟨g4,0,none⟩) 19 19] 177)):=(Upd.refl [] w4).alloc _
    have hP5:=Blk.new w4 [.slice (some ⟨g1,0,none⟩) lits.length c1,.slice (some ⟨g2,0,none⟩) backs.length c2,.slice va steps.length vc,.slice (some ⟨g4,0,none⟩) 19 19] 177
    have HW5:=Lib.hid (HW4.out.pure hU5)
    have hR1':=hR1.upd hU5 (by simp)
    have hR2':=hR2.upd hU5 (by simp)
    have hR3':=hR3.upd hU5 (by simp)
    have hB4':=hB4.upd hU5 (by simp)
    clear hR1 hR2 hR3 hB4 hU5 hU4 HMM HW3
    go_upto_region 10 with fail
    change Code.wp _ _ _ _ (w4.alloc (.cells #[.slice (some ⟨g1,0,none⟩) lits.length c1,.slice (some ⟨g2,0,none⟩) backs.length c2,.slice va steps.length vc,.slice (some ⟨g4,0,none⟩) 19 19] 177))
    generalize w4.alloc (.cells #[.slice (some ⟨g1,0,none⟩) lits.length c1,.slice (some ⟨g2,0,none⟩) backs.length c2,.slice va steps.length vc,.slice (some ⟨g4,0,none⟩) 19 19] 177)=w5 at *
    generalize w4.heap.size=pb at *
    have n4:=HW5.out.at_.apart (zg4 hB4') (by decide) (by decide)
    have hIn:IntsIn w5 (some ⟨g4,0,none⟩) 19 (ints lens):=IntsIn.blk hB4' hl19 (fun x hx=>by have:=hl7 x hx; omega)
    have n3 : ∀ bb off,va=some ⟨bb,off,none⟩→bb∉zU b v3:=fun bb off e=>by
     subst e
     obtain ⟨cs,fr,hh⟩:=kK hR3' (k:=bb) rfl
     exact HW5.out.at_.apart hh (by decide) (by decide)
    have hSt:StpIn w5 va steps.length steps:=StpIn.row hR3' rfl
    have HTB:=Lib.hid (zaY lens steps b v3 (qG L 2 LST) (some ⟨g1,0,none⟩) (some ⟨g2,0,none⟩) va (some ⟨g4,0,none⟩) lits.length backs.length steps.length c1 c2 vc 19 w5
     (fun w' h=>hIn.upd h (fun b' off e=>by cases e; exact n4)) (fun w' h=>hSt.updF h n3) HW5.out.at_ (by omega) (by omega) ⟨m1b,m1b'⟩ ⟨m2b,m2b'⟩ (by rw [hlaw.okC]; omega) (zeX hlaw hsy0) (fun j=>vg hl7 j))
    have kA:=hP5.all
    have HP5:=Lib.hid hP5
    have HPN:=Lib.hid hPn
    have HR1:=Lib.hid hR1'
    have HR2:=Lib.hid hR2'
    have HM:=Lib.hid hM
    have HPL:=Lib.hid hP
    have HX15:=Lib.hid x15
    have HY15:=Lib.hid y15
    have HTL:=Lib.hid (fun t (ht:ToldO lens t)=>zcQ lits.length backs.length t lens steps ht.hi (fun x hx=>by have:=hl7 x hx; omega) (fun s hs=>(hsy0 s hs).2))
    clear hP5 hPn hR1' hR2' hR3' hB4' n4 n3 hIn hSt hM hP hlaw x15 y15 hsy0 hl7 hl19 HW4
    go_wp2_with fail
    refine HTB.out.mono ?_
    rintro e w6 ⟨rfl,v6,t,ht,h6⟩
    have HW6:=Lib.hid (HW5.out.step h6.at_ h6.upd h6.later)
    have hP6:=HP5.out.upd h6.upd HPN.out
    have hR1:=HR1.out
    have hR2:=HR2.out
    obtain ⟨cs1,fr1,hh1⟩:=kK hR1 (k:=g1) rfl
    obtain ⟨cs2,fr2,hh2⟩:=kK hR2 (k:=g2) rfl
    have n1:=HW5.out.at_.apart hh1 (by decide) (by decide)
    have n2:=HW5.out.at_.apart hh2 (by decide) (by decide)
    have hR16:=hR1.upd h6.upd (fun k hk=>by simp [Value.ownBlock] at hk; subst hk; exact n1)
    have hR26:=hR2.upd h6.upd (fun k hk=>by simp [Value.ownBlock] at hk; subst hk; exact n2)
    have m1':=yp n1 (hR1.lt g1 rfl) h6.later
    have m2':=yp n2 (hR2.lt g2 rfl) h6.later
    have hI1:IntsIn w6 (some ⟨g1,0,none⟩) lits.length (ints lits):=IntsIn.row hR16 (fun x hx=>by have:=HX15.out x hx; omega)
    have hI2:IntsIn w6 (some ⟨g2,0,none⟩) backs.length (ints backs):=IntsIn.row hR26 (fun x hx=>by have:=HY15.out x hx; omega)
    have htl:=HTL.out t ht
    have HT:=Lib.hid ht
    have HS:=Lib.hid (Qj l lits backs b v6 (qG L 2 LST++zbT lits.length backs.length t lens steps) a (some ⟨g1,0,none⟩) (some ⟨g2,0,none⟩) n cap lits.length c1 backs.length c2 w6 (fun w' h=>HI.out w' (HW6.out.fp h)) (fun w' h=>hI1.upd h (fun b' off e=>by cases e; exact m1')) (fun w' h=>hI2.upd h (fun b' off e=>by cases e; exact m2')) HW6.out.at_ (by rw [List.length_append]; omega) hn HPL.out.a3 HPL.out.b3 HPL.out.coded HOK.out)
    clear kA
    have kA:=hP6.all
    clear h6 hP6 hR1 hR2 hh1 hh2 n1 n2 hR16 hR26 m1' m2' hI1 hI2 ht HTB HW5 htl HTL
    go_wp2_with fail
    refine HS.out.mono ?_
    rintro e w7 ⟨rfl,v7,h7⟩
    have HW7:=Lib.hid (HW6.out.step h7.at_ h7.upd h7.later)
    clear h7 HS kA
    go_wp2
    go_ret
    exact ⟨rfl,v7,_,.inr (.inr ⟨rfl,lits,backs,steps,lens,t,HM.out,HT.out,rfl⟩),HW7.out⟩
theorem Xs (l:List Tok) (b:Nat) (v:Value) (L:List Bool) (a:Option Addr) (n cap k:Nat) (last:Bool) (w:World) (hI : ∀ w',Upd (zU b v) w w'→TokIn w' a n l)
 (hW:WrAt w b v L (L.length/8)) (hL:L.length≤50000000000) (hn:n≤100000) (hok : ∀ t∈l,zH t) (hk:k≤2) (hg : ¬ zgy l n (k:Nat)) :
 Calls Tryz.prog 78 #[.pointer (some ⟨b,0,none⟩),.slice a n cap,.int .i64 (k:Nat),.bool last] w (zdh w b v L l k last):=zcC l b v L a n cap k last last rfl w hI hW hL hn hok hk hg
end Go.Proofs.YtfkcdnaghndgfaaGreatDoor
namespace Go.Proofs.YtfkcdnaghndgfaaGreatDoor
open Go.RowKit
attribute [local go_sem] Oper.semAt_some
def tcs (l:List Tok):List Value:=l.flatMap Tok.cs
theorem XZ (t:Tok) (l:List Tok):tcs (t::l)=t.cs++tcs l:=rfl
theorem KR : ∀ l:List Tok,(tcs l).length=l.length*3
 | []=>rfl
 | t::l=>by rw [XZ,List.length_append,KR l,List.length_cons]; show 3+_=_; omega
theorem XY : ∀ (l:List Tok) (i:Nat) (h:i<l.length) (r:Nat),r<3→(tcs l)[i*3+r]? =(l[i].cs)[r]?
 | [],i,h,_,_=>by simp at h
 | t::l,0,h,r,hr=>by
   rw [XZ,List.getElem?_append_left (by show _<3; omega)]
   simp
 | t::l,i+1,h,r,hr=>by
   rw [XZ,List.getElem?_append_right (by show 3≤_; omega)]
   have:=XY l i (by simpa using h) r hr
   rw [show (i+1)*3+r-t.cs.length=i*3+r by show _-3=_; omega,this]
   rfl
def Fit (l:List Tok):Prop := ∀ t∈l,t.byte<256∧(-9223372036854775808≤t.long∧t.long≤9223372036854775807)∧(-9223372036854775808≤t.back∧t.back≤9223372036854775807)
theorem TokIn.fit {w:World} {a:Option Addr} {n:Nat} {l:List Tok} (h:TokIn w a n l):Fit l:=fun t ht=>by
 obtain ⟨i,hi,rfl⟩:=List.getElem_of_mem ht
 obtain ⟨b,off,_,_,r⟩:=h.cell i hi
 exact r
theorem TokIn.cells {w:World} {a:Option Addr} {n:Nat} {l:List Tok} (h:TokIn w a n l) (b off:Nat) (ha:a=some ⟨b,off,none⟩) : ∀ j u,(tcs l)[j]? =some u→w.cell? ⟨b,off+j,none⟩=some u:=fun j u hu=>by
 obtain ⟨hj,_⟩:=List.getElem?_eq_some_iff.1 hu
 rw [KR] at hj
 have hi:j/3<l.length:=by omega
 have hr:j%3<3:=by omega
 have e:j=j/3*3+j%3:=by omega
 obtain ⟨b',off',e',⟨c1,c2,c3⟩,_⟩:=h.cell (j/3) hi
 rw [ha] at e'
 cases e'
 rw [e,XY l _ hi _ hr] at hu
 obtain hr | hr | hr:j%3=0∨j%3=1∨j%3=2:=by omega
 all_goals (rw [hr] at hu; simp [Tok.cs] at hu; subst hu)
 · exact (congrArg (fun k=>w.cell? ⟨b,k,none⟩) (by omega:off+j=off+j/3*3)).trans c1
 · exact (congrArg (fun k=>w.cell? ⟨b,k,none⟩) (by omega:off+j=off+j/3*3+1)).trans c2
 · exact (congrArg (fun k=>w.cell? ⟨b,k,none⟩) (by omega:off+j=off+j/3*3+2)).trans c3
theorem TokIn.of_row {w:World} {v:Value} {n:Nat} {l:List Tok} (h:Row w 130 3 v n (tcs l)) (hf:Fit l) : ∃ a c,v = .slice a n c∧TokIn w a n l∧(∀ b off,a=some ⟨b,off,none⟩→v.ownBlock=some b)∧((a=none∧n=0∧c=0) ∨ ∃ g o,a=some ⟨g,o,none⟩)∧n≤c:=by
 have hl:l.length=n:=by have:=h.1; rw [KR] at this; omega
 have hI : ∀ a c,v = .slice a n c→TokIn w a n l:=fun a c hv=>⟨hl,fun i hi=>by
  subst hv
  obtain ⟨g,cc,e,_,_⟩:=h.form' (by omega)
  cases e
  have hx:=hf _ (List.getElem_mem hi)
  refine ⟨g,0,rfl,⟨?_,?_,?_⟩,hx⟩
  · have:=h.cell (i*3+0) (by rw [XY l i hi 0 (by omega)]; rfl); rw [Nat.zero_add]; exact this
  · have:=h.cell (i*3+1) (by rw [XY l i hi 1 (by omega)]; rfl); rw [Nat.zero_add]; exact this
  · have:=h.cell (i*3+2) (by rw [XY l i hi 2 (by omega)]; rfl); rw [Nat.zero_add]; exact this⟩
 rcases h.2 with ⟨hv,h0⟩ | ⟨g,cap,cur,hv,hb,hg,hc,_⟩
 · subst h0
   exact ⟨none,0,hv,hI _ _ hv,(fun b off e=>by cases e),.inl ⟨rfl,rfl,rfl⟩,Nat.le_refl _⟩
 · exact ⟨_,cap,hv,hI _ _ hv,(fun b off e=>by cases e; rw [hv]; rfl),.inr ⟨g,0,rfl⟩,hc⟩
theorem zhV:(Tryz.prog.info? 130).map (fun i=>(i.zero,i.size,i.bytes))=some (some (.agg #[.int .u8 0,.int .i64 0,.int .i64 0]),3,24):=by kernel_rfl
end Go.Proofs.YtfkcdnaghndgfaaGreatDoor
namespace Go.Proofs.YtfkcdnaghndgfaaGreatDoor
open Go.RowKit
attribute [local go_sem] Oper.semAt_some
def qe (bs:List Nat):List Tok:=bs.map fun b=>⟨b,0,0⟩
theorem zam (bs:List Nat) (b:Nat):qe (bs++[b])=qe bs++[⟨b,0,0⟩]:=by simp [qe]
theorem zbR (l r:List Tok):tcs (l++r)=tcs l++tcs r:=by unfold tcs; rw [List.flatMap_append]
theorem zbs (t:Tok):tcs [t]=t.cs:=by simp [tcs]
def zfQ (bs:List Nat) (w:World) (e:Ending) (w':World):Prop := ∃ v,e = .returned v∧Row w' 130 3 v bs.length (tcs (qe bs))∧(∀ k,v.ownBlock=some k→w.heap.size≤k)∧Upd [] w w'
set_option maxRecDepth 100000 in
set_option maxHeartbeats 6400000 in
theorem zaA (S:ByteArray) (w:World) (hs:S.size≤65000) :
 Calls Tryz.prog 77 #[.string S] w fun e w'=>zfQ (za S) w e w':=by
 obtain ⟨i0,hi,jz0,jz1,jz2⟩:=info_parts zhV
 have HBL:=Lib.hid (zc S)
 have hsz : ¬ (65000:Int)<(S.size:Int):=by omega
 go_enter Tryz.func77,Tryz.ntmps77
 go_wp2
 go_loopg [2,9] 70000 (fun gg s2 s9 wr => ∃ i:Nat,i≤S.size∧gg=70000-i∧s9 = .int .i64 (i:Nat)∧Hid (Row wr 130 3 s2 i (tcs (qe ((za S).take i))))∧Hid (∀ k,s2.ownBlock=some k→w.heap.size≤k)∧Hid (Upd [] w wr))
 case atStart=>exact ⟨0,by omega,by omega,rfl,Lib.hid (Row.nil _ _ _),Lib.hid (fun k h=>by cases h),Lib.hid (Upd.refl _ _)⟩
 case round =>
  obtain ⟨i,hin,rfl,rfl,HR,HO,HU⟩:=hrel
  obtain ⟨va,vc,rfl⟩:=HR.out.form
  by_cases hc:i<S.size
  · have hcz:(i:Int)<(S.size:Int):=by omega
    have hil:i<(za S).length:=by rw [HBL.out]; exact hc
    have hw1:IntKind.i64.wrap ((i:Int)+1)=((i+1:Nat):Int):=by rw [IntWalk.i64_in _ (by omega)]; rfl
    have HTK:Hid (tcs (qe ((za S).take (i+1)))=tcs (qe ((za S).take i))++[.int .u8 ((S[i]'hc).toNat:Nat),.int .i64 0,.int .i64 0]):=Lib.hid (by
     rw [List.take_succ_eq_append_getElem hil,zam,zbR,zbs,yC S i hc hil]
     rfl)
    have hRz:=HR.out.alloc (.cells #[(.int .u8 ((S[i]'hc).toNat:Nat):Value),.int .i64 0,.int .i64 0] 130)
    have HNW:Hid (∀ j u,([(.int .u8 ((S[i]'hc).toNat:Nat):Value),.int .i64 0,.int .i64 0]:List Value)[j]? =some u→(wr.alloc (.cells #[(.int .u8 ((S[i]'hc).toNat:Nat):Value),.int .i64 0,.int .i64 0] 130)).cell? ((⟨wr.heap.size,0,none⟩:Addr).add j)=some u):=Lib.hid (World.news_of_block (cs := #[(.int .u8 ((S[i]'hc).toNat:Nat):Value),.int .i64 0,.int .i64 0]) (t:=130) (fr:=(0,0)) (heap_alloc_new _ _))
    have HST:Hid (∀ v∈([(.int .u8 ((S[i]'hc).toNat:Nat):Value),.int .i64 0,.int .i64 0]:List Value),v.oneCell'=true):=Lib.hid (by simp [Value.oneCell'])
    go_wp2_with (at_builtin; refine zC _ rfl _ _ 70 rfl 130 i0 _ 3 24 Tryz.underlying70 hi jz0 jz1 jz2 rfl (by omega) (.slice va i vc) i _ rfl hRz ⟨wr.heap.size,0,none⟩ 1 1 [(.int .u8 ((S[i]'hc).toNat:Nat):Value),.int .i64 0,.int .i64 0] rfl rfl HNW.out HST.out (by unfold maxLen; omega) (by omega) ?_)
    intro v5 w5 hR5 hU5 hT5
    rw [← HTK.out] at hR5
    have HR5:=Lib.hid hR5
    have HO5:Hid (∀ k,v5.ownBlock=some k→w.heap.size≤k):=Lib.hid (fun k hk=>by
     rcases hT5 with h | ⟨g',h1,h2⟩
     · exact HO.out k (by rw [← h]; exact hk)
     · rw [hk] at h1
       cases h1
       have:=(HU.out.alloc (.cells #[(.int .u8 ((S[i]'hc).toNat:Nat):Value),.int .i64 0,.int .i64 0] 130)).size
       omega)
    have HU5:Hid (Upd [] w w5):=Lib.hid ((HU.out.alloc (.cells #[(.int .u8 ((S[i]'hc).toNat:Nat):Value),.int .i64 0,.int .i64 0] 130)).trans hU5 (fun k hk => .inr (HO.out k (by simpa using hk))))
    clear hR5 hU5 hT5 hRz HNW HST
    go_wp2
    go_roundg (70000-(i+1))
    · exact ⟨i+1,by omega,by first | rfl | omega,by first | rfl | go_num,HR5,HO5,HU5⟩
    · omega
  · have hcz : ¬ (i:Int)<(S.size:Int):=by omega
    obtain rfl:i=S.size:=by omega
    have HR2:Hid (Row wr 130 3 (.slice va S.size vc) (za S).length (tcs (qe (za S)))):=Lib.hid (by
     have:=HR.out
     rw [List.take_of_length_le (by rw [HBL.out]; exact Nat.le_refl _)] at this
     rw [HBL.out]; exact this)
    go_wp2
    go_ret
    exact ⟨_,rfl,HR2.out,HO.out,HU.out⟩
end Go.Proofs.YtfkcdnaghndgfaaGreatDoor
