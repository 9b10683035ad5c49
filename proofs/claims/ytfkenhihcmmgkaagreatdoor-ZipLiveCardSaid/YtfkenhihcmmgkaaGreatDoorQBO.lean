/- slices.Clone of numbers; lens.Trim: their walks. -/
import Derived.Test.YtfkenhihcmmgkaaGreatDoorQBN
set_option linter.unusedVariables false
set_option linter.unusedSimpArgs false
set_option linter.unusedSectionVars false
set_option maxRecDepth 100000
set_option maxHeartbeats 12800000
namespace Go.Proofs.YtfkenhihcmmgkaaGreatDoor
open Go.RowKit
def zj3 (l:List Nat) (w:World) (e:Ending) (w':World):Prop := ∃ v,e = .returned v∧OwnX w w' 3 v (zl l)∧Upd [] w w'
theorem zfy (l:List Nat) (ad:Addr) (n c:Nat) (w:World) (hl:l.length=n) (hc : ∀ j u,(zl l)[j]? =some u→w.cell? (ad.add j)=some u) (hn:n≤1000000) :
 Calls Tryz.prog 326 #[.slice (some ad) n c] w fun e w'=>zj3 l w e w':=by
 obtain ⟨i0,hi,hz0,hz1,hz2⟩:=info_parts qh;have hnil : ∀ w,(binOp .eql 57 (.slice (some ad) n c) (.slice none 0 0)).run Tryz.prog w = .ok (.bool false) w:=fun w=>Lib.run_eql_slice_nil w 57 3 (some ad) n c 0 0 Tryz.underlying57;go_enter Tryz.func326,Tryz.ntmps326;have HL:Hid ((zl l).length=n*1):=Hi (by rw [zq,hl,Nat.mul_one]);have HN:Hid (∀ j u,(zl l)[j]? =some u→(w.alloc (.cells #[] 3)).cell? (ad.add j)=some u):=Hi (fun j u hj=>by
  have h7:=hc j u hj;exact (((Upd.refl [] w).alloc (.cells #[] 3)).cell (World.block_lt_of_cell? w _ h7) (by simp)).trans h7)
 clear hl hc;go_wp2_with (at_builtin; refine zH _ rfl _ _ 57 rfl 3 i0 _ 1 8 Tryz.underlying57 hi hz0 hz1 hz2 rfl (by omega) (.slice (some ⟨w.heap.size,0,none⟩) 0 0) 0 [] rfl (Row.new w [] 3 0 1 (by unfold maxLen; omega) rfl) ad n c (zl l) rfl HL.out HN.out (xi _) (by unfold maxLen; omega) (by omega) ?_)
 intro v5 w5 hR5 hU5 hT5;have HR:Hid (OwnX w w5 3 v5 (zl l)):=Hi (by
  refine ⟨?_,fun k hk=>?_⟩
  · rw [HL.out,Nat.mul_one];exact hR5
  · rcases hT5 with h | ⟨g,h1,h2⟩
    · rw [hk] at h;simp [Value.ownBlock] at h;omega
    · rw [hk] at h1;cases h1;have:=((Upd.refl [] w).alloc (.cells #[] 3)).size;omega)
 have HU:Hid (Upd [] w w5):=Hi (((Upd.refl [] w).alloc (.cells #[] 3)).trans hU5 (fun k hk=>by
  simp [Value.ownBlock] at hk;exact .inr (by omega)))
 clear hR5 hU5 hT5;go_wp2;go_ret;exact ⟨_,rfl,HR.out,HU.out⟩
structure TrimO (l:List Nat) (least:Int) (n m:Nat):Prop where
 le:m≤n
 zero : ∀ i,m≤i→i<n→l.getD i 0=0
 few:m=n∨least≤m
 last:m=0∨(m:Int)≤least∨l.getD (m-1) 0≠0
def zjr (l:List Nat) (least:Int) (n:Nat) (w:World) (e:Ending) (w':World):Prop := ∃ v m,e = .returned v∧TrimO l least n m∧OwnX w w' 3 v (zl (l.take m))∧Upd [] w w'
theorem zbc (l:List Nat) (b off n c:Nat) (least:Int) (w:World) (hl:l.length=n) (hnc:n≤c) (hc : ∀ j,(h:j<l.length)→w.cell? ⟨b,off+j,none⟩=some (.int .i64 (l[j]:Nat))) (hn:n≤1000000) :
 Calls Tryz.prog 297 #[.slice (some ⟨b,off,none⟩) n c,.int .i64 least] w fun e w'=>zjr l least n w e w':=by
 have HC:=Hi hc;have HLN:=Hi hl;clear hc hl;go_enter Tryz.func297,Tryz.ntmps297;go_wp2;go_loopg [5] 1000000 (fun gg s5 wr => ∃ m:Nat,m≤n∧gg=1000000-(n-m)∧s5 = .int .i64 (m:Nat)∧wr=w∧Hid (∀ i,m≤i→i<n→l.getD i 0=0)∧Hid (m=n∨least≤m))
 case atStart=>exact ⟨n,by omega,by omega,rfl,rfl,Hi (fun i h1 h2=>by omega),Hi (.inl rfl)⟩
 case round =>
  obtain ⟨m,hmn,rfl,rfl,hwr,HZ,HF⟩:=hrel;subst hwr;have hfin : ∀ (HLa:Hid (m=0∨(m:Int)≤least∨l.getD (m-1) 0≠0)),Calls Tryz.prog 326 #[.slice (some ⟨b,off,none⟩) m c] wr fun e w'=>zjr l least n wr e w':=fun HLa=>by
   refine (zfy (l.take m) ⟨b,off,none⟩ m c wr (by rw [List.length_take,HLN.out]; omega) (fun j u hj=>?_) (by omega)).mono ?_
   · rw [zl,List.getElem?_map] at hj;obtain ⟨x,hx,rfl⟩:=Option.map_eq_some_iff.1 hj;obtain ⟨hj1,rfl⟩:=List.getElem?_eq_some_iff.1 hx;rw [jf,List.getElem_take];exact HC.out j (by rw [List.length_take] at hj1; omega)
   · rintro e w' ⟨v,rfl,h1,h2⟩;exact ⟨v,m,rfl,⟨hmn,HZ.out,HF.out,HLa.out⟩,h1,h2⟩
  have HFIN:=Hi hfin;clear hfin;have hmc:(m:Int)≤(c:Int):=by omega
  have hm0:(0:Int)≤(m:Int):=by omega
  have hend : ∀ (HLa:Hid (m=0∨(m:Int)≤least∨l.getD (m-1) 0≠0)),True:=fun _=>trivial;clear hend;rcases Nat.eq_zero_or_pos m with h0 | h0
  · subst h0;have HCL:=Hi (HFIN.out (Hi (.inl rfl)));clear HFIN;(go_wp2_with fail);refine HCL.out.mono ?_;rintro e w' ⟨v,m,rfl,h1,h2,h3⟩;have HA:=Hi (And.intro h1 (And.intro h2 h3));clear h1 h2 h3 HCL;go_wp2;go_ret;exact ⟨v,m,rfl,HA.out.1,HA.out.2.1,HA.out.2.2⟩
  · have h0z:(0:Int)<(m:Int):=(by omega);by_cases h1:(m:Int)≤least
    · have HCL:=Hi (HFIN.out (Hi (.inr (.inl h1))));clear HFIN;have h1z : ¬ least<(m:Int):=(by omega);(go_wp2_with fail);refine HCL.out.mono ?_;rintro e w' ⟨v,m,rfl,h1,h2,h3⟩;have HA:=Hi (And.intro h1 (And.intro h2 h3));clear h1 h2 h3 HCL;go_wp2;go_ret;exact ⟨v,m,rfl,HA.out.1,HA.out.2.1,HA.out.2.2⟩
    · have h1z:least<(m:Int):=(by omega);obtain ⟨p,rfl⟩ : ∃ p,m=p+1:=⟨m-1,by omega⟩;have hpl:p<l.length:=(by rw [HLN.out]; omega);have hcp:=HC.out p hpl;have HG:Hid (l.getD p 0=l[p]):=Hi (by simp [List.getD_eq_getElem?_getD,hpl]);generalize l[p]=x at *;have hw1:IntKind.i64.wrap (((p+1:Nat):Int)-1)=(p:Int):=(by rw [IntWalk.i64_in _ (by omega)]; omega);clear hpl;by_cases hx:x=0
      · subst hx;clear HFIN;go_wp2;go_roundg (1000000-(n-p))
        · exact ⟨p,by omega,rfl,by first | rfl | go_num,rfl,Hi (fun i hi hin=>by
           rcases Nat.lt_or_ge i (p+1) with h | h
           · obtain rfl:i=p:=(by omega);exact HG.out
           · exact HZ.out i h hin),Hi (.inr (by omega))⟩
        · omega
      · have hxz : ¬ (x:Int)=0:=(by omega);have HCL:=Hi (HFIN.out (Hi (.inr (.inr (by rw [Nat.add_sub_cancel,HG.out]; exact hx)))));clear HFIN;(go_wp2_with fail);refine HCL.out.mono ?_;rintro e w' ⟨v,m,rfl,h1,h2,h3⟩;have HA:=Hi (And.intro h1 (And.intro h2 h3));clear h1 h2 h3 HCL;go_wp2;go_ret;exact ⟨v,m,rfl,HA.out.1,HA.out.2.1,HA.out.2.2⟩
end Go.Proofs.YtfkenhihcmmgkaaGreatDoor
namespace Go.Proofs.YtfkenhihcmmgkaaGreatDoor
theorem xw (n:Nat) (f:Nat→Nat) (i:Nat) (h:i<n):((List.range n).map f).getD i 0=f i:=by
 simp [List.getD_eq_getElem?_getD,h]
theorem Ko {many:List Int} {u:List Nat} {L n:Nat} (h:u.length≠1):ofL many u L n=(List.range n).map fun s=>qF many u L s:=by
 unfold ofL;rw [if_neg h]
theorem qU (many:List Int) (u:List Nat) (L n:Nat):(ofL many u L n).length=n:=by
 unfold ofL;split<;>simp
structure Fits (many:List Int) (u:List Nat) (L n:Nat) (l:List Nat):Prop where
 len:l.length=n
 iff : ∀ i,i<n→(0<l.getD i 0↔0<many.getD i 0)
 le : ∀ i,i<n→l.getD i 0≤L
 fall : ∀ i j,i≤j→(hj:j<u.length)→l.getD (u.getD j 0) 0≤l.getD (u.getD i 0) 0
 one:u.length=1→l.getD (u.getD 0 0) 0=1
 none:u=[]→yF l=0
 two:2≤u.length→yF l=32768
theorem za6 (n:Nat) (f:Nat→Nat):yF ((List.range n).map f)=yz n (fun s=>wt (f s)):=by
 unfold yF yz;rw [List.map_map];rfl
theorem XU {u:List Nat} {i:Nat} (h:i<u.length):u.getD i 0∈u:=by
 rw [List.getD_eq_getElem?_getD,List.getElem?_eq_getElem h];exact List.getElem_mem h
theorem Js {many:List Int} {n:Nat} {u:List Nat} (hn:many.length=n) (hu:IsUsed many n u) (L:Nat) (h1:1≤L) (h15:L≤15) (hk:u.length≤2^L):Fits many u L n (ofL many u L n):=by
 rcases Nat.lt_or_ge u.length 2 with h2 | h2
 · rcases Nat.lt_or_ge u.length 1 with h0 | h0
   · have hu0:u=[]:=List.eq_nil_of_length_eq_zero (by omega);have hl : ∀ s,qF many u L s=0:=fun s=>(by subst hu0; simp [qF,jG]);have he:ofL many u L n=(List.range n).map fun s=>0:=by
      rw [Ko (by omega)];exact List.map_congr_left fun s _=>hl s
     rw [he];refine ⟨by simp,fun i hi=>?_,fun i hi=>by rw [xw n _ i hi]; omega,fun i j hij hj=>by omega,fun h=>by omega,fun _=>?_,fun h=>by omega⟩
     · rw [xw n _ i hi];constructor
       · intro h; omega
       · intro h;have:=(hu.mem i).2 ⟨hi,h⟩;rw [hu0] at this;simp at this
     · rw [za6];have:yz n (fun s=>wt 0)=n*wt 0:=kZ n _;rw [this];simp [wt]
   · have h1e:u.length=1:=(by omega);obtain ⟨s,rfl⟩ : ∃ s,u=[s]:=by
      cases u with
      | nil=>simp at h1e
      | cons s r=>cases r with
        | nil=>exact ⟨s,rfl⟩
        | cons=>simp at h1e
     have hs:=(hu.mem s).1 (by simp);have he:ofL many [s] L n=(List.replicate n 0).set s 1:=(by simp [ofL]);have hg : ∀ i,i<n→(ofL many [s] L n).getD i 0=if i=s then 1 else 0:=by
      intro i hi;rw [he,List.getD_eq_getElem?_getD,List.getElem?_set];by_cases e:s=i
      · subst e; simp [hi]
      · rw [if_neg e,if_neg (fun q=>e q.symm)]; simp [hi]
     refine ⟨by rw [he]; simp,fun i hi=>?_,fun i hi=>by rw [hg i hi]; split<;>omega,fun i j hij hj=>?_,fun _=>?_,fun h=>by simp at h,fun h=>by simp at h⟩
     · rw [hg i hi];have:=hu.mem i;simp at this;by_cases e:i=s
       · rw [if_pos e]; exact ⟨fun _=>by rw [e]; exact hs.2,fun _=>by omega⟩
       · rw [if_neg e];constructor
         · intro q; omega
         · intro q; exact absurd (this.2 ⟨hi,by simpa [List.getD_eq_getElem?_getD] using q⟩) e
     · simp at hj;obtain rfl:j=0:=(by omega);obtain rfl:i=0:=(by omega);exact Nat.le_refl _
     · show (ofL many [s] L n).getD s 0=1;rw [hg s hs.1,if_pos rfl]
 · obtain ⟨_,c,c1,c2,c3,c4,c5,_⟩:=Ks many u L hu.srt h2 hk;have hlt : ∀ s∈u,s<n:=fun s hs=>((hu.mem s).1 hs).1;have hc : ∀ i,i<u.length→qF many u L (u.getD i 0)=c i:=fun i hi=>by
    rw [List.getD_eq_getElem?_getD,List.getElem?_eq_getElem hi];exact c4 i hi
   rw [Ko (by omega)];refine ⟨by simp,fun i hi=>?_,fun i hi=>?_,fun i j hij hj=>?_,fun h=>by omega,fun h=>by subst h; simp at h2,fun _=>?_⟩
   · rw [xw n _ i hi];have hm:=hu.mem i;by_cases hiu:i∈u
     · obtain ⟨k,hk2,rfl⟩:=List.getElem_of_mem hiu;rw [c4 k hk2];exact ⟨fun _=>(hm.1 hiu).2,fun _=>by have:=(c1 k hk2).1; omega⟩
     · rw [c5 i hiu];exact ⟨fun q=>by omega,fun q=>absurd (hm.2 ⟨hi,q⟩) hiu⟩
   · rw [xw n _ i hi];by_cases hiu:i∈u
     · obtain ⟨k,hk2,rfl⟩:=List.getElem_of_mem hiu;rw [c4 k hk2];exact (c1 k hk2).2
     · rw [c5 i hiu]; omega
   · rw [xw n _ _ (hlt _ (XU hj)),xw n _ _ (hlt _ (XU (by omega))),hc j hj,hc i (by omega)];exact c2 i j hij
   · rw [za6,zd9 n _ u hu.nodup hlt (fun s _ hs=>by rw [c5 s hs]; simp [wt]),zhy];have e1:yz u.length (fun i=>wt (qF many u L (u.getD i 0)))=yz u.length (fun i=>2^(15-L)*2^(L-c i)):=ql fun i hi=>by
      rw [hc i hi];have:=c1 i hi;unfold wt;rw [if_neg (by omega),← Nat.pow_add]
      congr 1
      omega
     have e2 : ∀ m,yz m (fun i=>2^(15-L)*2^(L-c i))=2^(15-L)*yz m (fun i=>2^(L-c i)):=by
      intro m
      induction m with
      | zero=>rfl
      | succ m ih=>rw [yi,yi,ih,Nat.mul_add]
     rw [e1,e2,c3,← Nat.pow_add];have:15-L+L=15:=(by omega);rw [this]
end Go.Proofs.YtfkenhihcmmgkaaGreatDoor
namespace Go.Proofs.YtfkenhihcmmgkaaGreatDoor
open Go.RowKit
attribute [local go_sem] Oper.semAt_some
theorem Yu:(Tryz.prog.info? 313).map (·.size)=some 4:=by kernel_rfl
theorem zbG {many:List Int} {n:Nat} {u:List Nat} (h:IsUsed many n u):u.length=(xH many n).length:=by
 refine List.Perm.length_eq ?_;refine (List.perm_ext_iff_of_nodup h.nodup (List.Pairwise.filter _ List.nodup_range)).2 (fun i=>?_);rw [h.mem i];exact (qe many n i).symm
def jm (c:List Nat):List Nat:=if (xH (ints c) 19).length=1 then (if c.getD 0 0=0 then c.set 0 1 else c.set 1 1) else c
theorem Yg (c:List Nat):(jm c).length=c.length:=by
 unfold jm;split
 · split<;>simp
 · rfl
structure MadeO (l:List Tok) (lits backs:List Nat) (steps:List StpD) (lens:List Nat):Prop where
 a : ∃ u m,IsUsed (ints (zt l).1) 286 u∧TrimO (ofL (ints (zt l).1) u 15 286) 257 286 m∧lits=(ofL (ints (zt l).1) u 15 286).take m
 b : ∃ u m,IsUsed (ints (zt l).2) 30 u∧TrimO (ofL (ints (zt l).2) u 15 30) 1 30 m∧backs=(ofL (ints (zt l).2) u 15 30).take m
 s:steps=ofS (lits.length+backs.length) (ints (lits++backs)) (-1)
 c : ∃ u,IsUsed (ints (jm (zL steps))) 19 u∧lens=ofL (ints (jm (zL steps))) u 7 19
theorem JH {many:List Int} {u:List Nat} {L n:Nat} (hn:many.length=n) (hu:IsUsed many n u) (h1:1≤L) (h15:L≤15) (hk:u.length≤2^L) : ∀ x∈ofL many u L n,x≤L:=by
 intro x hx;have hf:=Js hn hu L h1 h15 hk;obtain ⟨i,hi,rfl⟩:=List.getElem_of_mem hx;have:=hf.le i (by rw [← hf.len]; exact hi);rw [List.getD_eq_getElem?_getD,List.getElem?_eq_getElem hi] at this;exact this
theorem XB {many:List Int} {u:List Nat} {k n:Nat} {w:World} {v:Value} {w':World} (h:zjf many u (k:Int) n w v w') (h1:1≤k) (h15:k≤15) (hn:n≤300) (hu:u.length≤2^k) :
 ∃ ob,v = .slice (some ⟨ob,0,none⟩) n n∧w.heap.size≤ob∧Blk w' ob (zl (ofL many u k n)) 3:=by
 rcases h with ⟨hb,_⟩ | ⟨_,ob,e,hs,hB⟩
 · exfalso;unfold zbB at hb;rw [show (k:Int).toNat=k by omega] at hb;omega
 · rw [show (k:Int).toNat=k by omega] at hB;exact ⟨ob,e,hs,hB⟩
theorem zgv {w:World} {ob:Nat} {l:List Nat} {t:TypeId} (hB:Blk w ob (zl l) t) : ∀ j,(h:j<l.length)→w.cell? ⟨ob,0+j,none⟩=some (.int .i64 (l[j]:Nat)):=fun j h=>by
 rw [Nat.zero_add];exact hB.cell j (zB l j _ (List.getElem?_eq_getElem h))
def zke (l:List Tok) (w:World) (e:Ending) (w':World):Prop := ∃ (g1 c1 g2 c2 g4:Nat) (v3:Value) (lits backs lens:List Nat) (steps:List StpD),
 e = .returned (.agg #[.slice (some ⟨g1,0,none⟩) lits.length c1,.slice (some ⟨g2,0,none⟩) backs.length c2,v3,.slice (some ⟨g4,0,none⟩) 19 19])∧MadeO l lits backs steps lens ∧
 Row w' 3 1 (.slice (some ⟨g1,0,none⟩) lits.length c1) lits.length (zl lits)∧Row w' 3 1 (.slice (some ⟨g2,0,none⟩) backs.length c2) backs.length (zl backs)∧Row w' 351 3 v3 steps.length (ji steps)∧Blk w' g4 (zl lens) 3∧Upd [] w w'
theorem zc0 : ∀ (f:Nat) (r:List Int) (a:Int),(ofS f r a).length≤f
 | 0,_,_=>Nat.le_refl _
 | f+1,r,a=>by
   rw [jJ];split
   · exact Nat.zero_le _
   · rw [List.length_cons]; have:=zc0 f (r.drop (yo r a).2) (r.getD ((yo r a).2-1) 0); omega
theorem zh0 (l:List Tok) (a:Option Addr) (n cap:Nat) (w:World) (hI:TokIn w a n l) (hn:n≤100000) (hok : ∀ t∈l,yu t) :
 Calls Tryz.prog 258 #[.slice a n cap] w fun e w'=>zke l w e w':=by
 obtain ⟨i0,hi,hz0,hz1,hz2⟩:=info_parts qh;have hB1:=Blk.new w [.slice none 0 0,.slice none 0 0,.slice none 0 0,.slice none 0 0] 313;have hU1:=(Upd.refl [] w).alloc (.cells #[.slice none 0 0,.slice none 0 0,.slice none 0 0,.slice none 0 0] 313);have HMA:=Hi (zbq l a n cap _ (hI.pure hU1) hn hok);have HMO:=Hi (by have:=qV l l.length (Nat.le_refl _); rw [List.take_length] at this; exact this);have HLN:=Hi hI.len;have HB1:=Hi hB1;have HU1:=Hi hU1;clear hI hok hB1 hU1;go_enter Tryz.func258,Tryz.ntmps258;go_upto_region 1 with fail
 change Code.wp _ _ _ _ (w.alloc (.cells #[.slice none 0 0,.slice none 0 0,.slice none 0 0,.slice none 0 0] 313));generalize w.alloc (.cells #[.slice none 0 0,.slice none 0 0,.slice none 0 0,.slice none 0 0] 313)=w1 at *;obtain ⟨bp,hbp⟩ : ∃ bp,w.heap.size=bp:=⟨_,rfl⟩;rw [hbp] at HB1 ⊢;have HBQ:=Hi hbp;clear hbp;have HMD:Hid (∀ lits backs steps lens,(∃ u m,IsUsed (ints (zt l).1) 286 u∧TrimO (ofL (ints (zt l).1) u 15 286) 257 286 m∧lits=(ofL (ints (zt l).1) u 15 286).take m)→(∃ u m,IsUsed (ints (zt l).2) 30 u∧TrimO (ofL (ints (zt l).2) u 15 30) 1 30 m∧backs=(ofL (ints (zt l).2) u 15 30).take m)→steps=ofS (lits.length+backs.length) (ints (lits++backs)) (-1)→(∃ u,IsUsed (ints (jm (zL steps))) 19 u∧lens=ofL (ints (jm (zL steps))) u 7 19)→MadeO l lits backs steps lens):=Hi (fun _ _ _ _ h1 h2 h3 h4=>⟨h1,h2,h3,h4⟩);unfold zgj at HMA;generalize zt l=p at *;obtain ⟨pa,pb⟩:=p;dsimp only at HMA HMD;have hla:pa.length=286:=HMO.out.la;have hlb:pb.length=30:=HMO.out.lb;have HPA:Hid (∀ v∈pa,v≤9223372036854775807):=Hi (fun v hv=>by have:=HMO.out.ba v hv; have:=HLN.out; omega);have HPB:Hid (∀ v∈pb,v≤9223372036854775807):=Hi (fun v hv=>by have:=HMO.out.bb v hv; have:=HLN.out; omega);have HLA:=Hi hla;have HLB:=Hi hlb;have HIL:Hid ((ints pa).length=286):=Hi (by simp [ints,hla]);have HIB:Hid ((ints pb).length=30):=Hi (by simp [ints,hlb]);clear hla hlb HMO;go_wp2_with fail
 refine HMA.out.mono ?_;rintro e w2 ⟨oa,ob,rfl,hA,hB,hoa,hob,_,hU2⟩;have hbl1:=HB1.out.lt;have hoab:bp<oa∧bp<ob:=⟨by omega,by omega⟩;clear hoa hob hbl1;have HIA:=Hi (IntsIn.blk hA HLA.out HPA.out);have HIB2:=Hi (IntsIn.blk hB HLB.out HPB.out);have HB2:=Hi (HB1.out.upd hU2 (by simp));have HU2:=Hi (HU1.out.then hU2);have HOF:=Hi (zc2 (ints pa) (some ⟨oa,0,none⟩) 286 286 ((15:Nat):Int) w2 HIA.out (by omega));clear hA hB hU2 HMA HB1 HU1;go_wp2_with fail
 refine HOF.out.mono ?_;rintro e w3 ⟨v1,u1,rfl,hu1,hof,hU3⟩;rw [HIL.out] at hu1;have hu1l:u1.length≤2^15:=by have:=hu1.le; omega
 obtain ⟨o1,rfl,_,hO1⟩:=XB hof (by omega) (by omega) (by omega) hu1l;have HF1:=Hi (qU (ints pa) u1 15 286);have HX1:=Hi (JH HIL.out hu1 (L:=15) (by omega) (by omega) hu1l);have HUS1:=Hi hu1;have HTR:=Hi (zbc (ofL (ints pa) u1 15 286) o1 0 286 286 257 w3 HF1.out (Nat.le_refl _) (zgv hO1) (by omega));have HB3:=Hi (HB2.out.upd hU3 (by simp));have HU3:=Hi (HU2.out.then hU3);have HIB3:=Hi (HIB2.out.pure hU3);clear hof hu1 hu1l hO1 hU3 HB2 HU2 HIB2 HOF HIA;go_wp2_with fail
 refine HTR.out.mono ?_;rintro e w4 ⟨v1,m1,rfl,hT1,hO1,hU4⟩;have HL1:Hid (((ofL (ints pa) u1 15 286).take m1).length=m1):=Hi (by rw [List.length_take,HF1.out]; exact Nat.min_eq_left hT1.le);have hm1:257≤m1∧m1≤286:=⟨by have:=hT1.few; omega,hT1.le⟩;have hR1:=hO1.1;rw [zq,HL1.out] at hR1;obtain ⟨g1,c1,rfl,_,hcap1⟩:=hR1.form' (by omega);have HBD1:Hid (∀ x∈(ofL (ints pa) u1 15 286).take m1,x≤15):=Hi (fun x hx=>HX1.out x (List.mem_of_mem_take hx));have HMD1:Hid (∃ u m,IsUsed (ints pa) 286 u∧TrimO (ofL (ints pa) u 15 286) 257 286 m∧(ofL (ints pa) u1 15 286).take m1=(ofL (ints pa) u 15 286).take m):=Hi ⟨u1,m1,HUS1.out,hT1,rfl⟩;have HR1:=Hi hR1;have hb4:=HB3.out.upd hU4 (by simp);have k0:=hb4.cell 0 rfl;have f0:=hb4.frz 0;have HB4:=Hi (hb4.set 0 (.slice (some ⟨g1,0,none⟩) m1 c1));have HU4:=Hi ((HU3.out.then hU4).setCell (p:=⟨bp,0,none⟩) (.inr (by have:=HBQ.out; show w.heap.size≤bp; omega)) (.slice (some ⟨g1,0,none⟩) m1 c1));have hg1:bp<g1:=by
  have h1:=hO1.2 g1 rfl;have:=HB3.out.lt;omega
 have HUs4:Hid (Upd [bp] w4 (w4.setCell ⟨bp,0,none⟩ (.slice (some ⟨g1,0,none⟩) m1 c1))):=Hi ((Upd.refl [bp] w4).setCell (.inl (by simp)) _);have HR1s:=Hi (hR1.upd HUs4.out (by simp [Value.ownBlock]; omega));have HIB4:=Hi ((HIB3.out.pure hU4).upd HUs4.out (fun b off e=>by cases e; simp; omega));have HOF2:=Hi (zc2 (ints pb) (some ⟨ob,0,none⟩) 30 30 ((15:Nat):Int) (w4.setCell ⟨bp,0,none⟩ (.slice (some ⟨g1,0,none⟩) m1 c1)) HIB4.out (by omega));clear hT1 hO1 hU4 hR1 hcap1 HB3 HU3 HIB3 HTR HX1 HF1 HUS1 HR1 hb4 HIB4;go_wp2_with fail
 refine HOF2.out.mono ?_;rintro e w5 ⟨v2,u2,rfl,hu2,hof,hU5⟩;rw [HIB.out] at hu2;have hu2l:u2.length≤2^15:=by have:=hu2.le; omega
 obtain ⟨o2,rfl,_,hO2⟩:=XB hof (by omega) (by omega) (by omega) hu2l;have HF2:=Hi (qU (ints pb) u2 15 30);have HX2:=Hi (JH HIB.out hu2 (L:=15) (by omega) (by omega) hu2l);have HUS2:=Hi hu2;have HTR:=Hi (zbc (ofL (ints pb) u2 15 30) o2 0 30 30 1 w5 HF2.out (Nat.le_refl _) (zgv hO2) (by omega));have HB5:=Hi (HB4.out.upd hU5 (by simp));have HU5:=Hi (HU4.out.then hU5);have HR15:=Hi (HR1s.out.upd hU5 (by simp));clear hof hu2 hu2l hO2 hU5 HB4 HU4 HOF2 HR1s k0 f0 HUs4;go_wp2_with fail
 refine HTR.out.mono ?_;rintro e w6 ⟨v2,m2,rfl,hT2,hO2,hU6⟩;have HL2:Hid (((ofL (ints pb) u2 15 30).take m2).length=m2):=Hi (by rw [List.length_take,HF2.out]; exact Nat.min_eq_left hT2.le);have hm2:1≤m2∧m2≤30:=⟨by have:=hT2.few; omega,hT2.le⟩;have hR2:=hO2.1;rw [zq,HL2.out] at hR2;obtain ⟨g2,c2,rfl,_,hcap2⟩:=hR2.form' (by omega);have HBD2:Hid (∀ x∈(ofL (ints pb) u2 15 30).take m2,x≤15):=Hi (fun x hx=>HX2.out x (List.mem_of_mem_take hx));have HMD2:Hid (∃ u m,IsUsed (ints pb) 30 u∧TrimO (ofL (ints pb) u 15 30) 1 30 m∧(ofL (ints pb) u2 15 30).take m2=(ofL (ints pb) u 15 30).take m):=Hi ⟨u2,m2,HUS2.out,hT2,rfl⟩;have hb6:=HB5.out.upd hU6 (by simp);have k1:=hb6.cell 1 rfl;have f1:=hb6.frz 1;have HBP:=Hi (hb6.set 1 (.slice (some ⟨g2,0,none⟩) m2 c2));have HUW:=Hi ((HU5.out.then hU6).setCell (p:=⟨bp,1,none⟩) (.inr (by have:=HBQ.out; show w.heap.size≤bp; omega)) (.slice (some ⟨g2,0,none⟩) m2 c2));have hg2:bp<g2:=by
  have h1:=hO2.2 g2 rfl;have:=HB5.out.lt;omega
 have HUs6:Hid (Upd [bp] w6 (w6.setCell ⟨bp,1,none⟩ (.slice (some ⟨g2,0,none⟩) m2 c2))):=Hi ((Upd.refl [bp] w6).setCell (.inl (by simp)) _);have HLR1:=Hi ((HR15.out.upd hU6 (by simp)).upd HUs6.out (by simp [Value.ownBlock]; omega));have HLR2:=Hi (hR2.upd HUs6.out (by simp [Value.ownBlock]; omega));clear hT2 hO2 hU6 hR2 hcap2 HB5 HU5 HTR HX2 HF2 HUS2 hb6 HR15 HUs6;simp only [List.set_cons_zero,List.set_cons_succ] at HBP;generalize (ofL (ints pa) u1 15 286).take m1=lits at *;generalize (ofL (ints pb) u2 15 30).take m2=backs at *;go_upto_region 4 with fail
 change Code.wp _ _ _ _ (w6.setCell ⟨bp,1,none⟩ (.slice (some ⟨g2,0,none⟩) m2 c2));generalize w6.setCell ⟨bp,1,none⟩ (.slice (some ⟨g2,0,none⟩) m2 c2)=W at *;clear k1 f1;have k0:=HBP.out.cell 0 rfl;have k1:=HBP.out.cell 1 rfl;have HBD:Hid (∀ x∈lits++backs,x≤15):=Hi (fun x hx=>by rcases List.mem_append.1 hx with h | h; exact HBD1.out x h; exact HBD2.out x h);have HLL1:Hid ((zl lits).length=m1*1):=Hi (by rw [zq,HL1.out,Nat.mul_one]);have HLL2:Hid ((zl backs).length=m2*1):=Hi (by rw [zq,HL2.out,Nat.mul_one]);have HBPL:Hid (bp<W.heap.size):=Hi HBP.out.lt;have hbpl:=HBP.out.lt;refine wp_region_held_drew (S:=fun w'=>HC [bp] W [(⟨bp,0,none⟩,.slice (some ⟨g1,0,none⟩) m1 c1),(⟨bp,1,none⟩,.slice (some ⟨g2,0,none⟩) m2 c2)] w') (by kernel_rfl) (HC.of (fp:=[bp]) (W:=W) (fs:=[(⟨bp,0,none⟩,.slice (some ⟨g1,0,none⟩) m1 c1),(⟨bp,1,none⟩,.slice (some ⟨g2,0,none⟩) m2 c2)]) ⟨k0,k1,trivial⟩).drew (fun hHeld=>hdN ?_);refine hdT 1 (some 20) ?_;refine hdT 2 (some 21) ?_ (hy:=by intro w hSw; have q0:=hSw.cells.1; dsimp only at q0; clear hSw; go_simp; try with_reducible rfl);refine hdT 4 (some 23) ?_;refine hdT 5 (some 24) ?_ (hy:=by intro w hSw; have q0:=hSw.cells.2.1; dsimp only at q0; clear hSw; go_simp; try with_reducible rfl);refine hdO 0 (fun K hK=>?_);go_simp;skip;go_wp2;refine hK.out _ _ (HC.alloc hHeld _) (fun hHeld=>hdN ?_);clear hK K;refine hdO 3 (fun K hK=>?_);have HN1:Hid (∀ j u,(zl lits)[j]? =some u→(W.drew.alloc (.cells #[] 3)).cell? ((⟨g1,0,none⟩:Addr).add j)=some u):=Hi (fun j u hj=>by rw [jf,Nat.zero_add]; exact (((Upd.refl [] W).drew).alloc (.cells #[] 3)).keep (HLR1.out.cell j hj));refine qu _ rfl _ _ 57 rfl 3 i0 _ 1 8 Tryz.underlying57 hi hz0 hz1 hz2 rfl (by omega) (.slice (some ⟨W.heap.size,0,none⟩) 0 0) (0) ([]) rfl (Row.new W.drew [] 3 0 1 (by unfold maxLen; omega) rfl) (⟨g1,0,none⟩) (m1) (c1) (zl lits) rfl (HLL1.out) (HN1.out) (xi _) (by unfold maxLen; omega) (by omega) ?_;intro v4 z4 hR4 hU4 hT4;go_wp2;refine hK.out _ _ (hHeld.thenF hU4 (fun k hk => .inr (by simp [Value.ownBlock] at hk; omega)) (by simp [Value.ownBlock]; omega)) (fun hHeld=>?_);clear hK K;change wpAnyH _ _ _ _ _ _ _ (Act.put _ (some 22) _) _;refine hdN ?_;have HO4:Hid (∀ k,v4.ownBlock=some k→W.heap.size≤k):=Hi (fun k hk=>by
  rcases hT4 with h | ⟨g,h1,h2⟩
  · rw [hk] at h; simp [Value.ownBlock] at h; omega
  · rw [hk] at h1; cases h1; have h9:=(((Upd.refl [] W).drew).alloc (.cells #[] 3)).size; exact Nat.le_trans h9 h2)
 have HR4:=Hi hR4;have hU40:Upd [] W z4:=((((Upd.refl [] W).drew).alloc _).trans hU4 (fun k hk => .inr (by simp [Value.ownBlock] at hk; omega)));have HU40:=Hi hU40;clear hR4 hU4 hT4 HN1 hU40;refine hdO 6 (fun K hK=>?_);have HN2:Hid (∀ j u,(zl backs)[j]? =some u→z4.cell? ((⟨g2,0,none⟩:Addr).add j)=some u):=Hi (fun j u hj=>by rw [jf,Nat.zero_add]; exact HU40.out.keep (HLR2.out.cell j hj));refine qu _ rfl _ _ 57 rfl 3 i0 _ 1 8 Tryz.underlying57 hi hz0 hz1 hz2 rfl (by omega) (v4) (0+m1) ([]++zl lits) rfl (HR4.out) (⟨g2,0,none⟩) (m2) (c2) (zl backs) rfl (HLL2.out) (HN2.out) (xi _) (by unfold maxLen; omega) (by omega) ?_;intro v5 z5 hR5 hU5 hT5;go_wp2;refine hK.out _ _ (hHeld.thenF hU5 (fun k hk => .inr (HO4.out k (by simpa using hk))) (fun x hx=>by have hbp:=HBPL.out; simp at hx; rcases hx with rfl | rfl<;>(intro hk; have:=HO4.out _ (by simpa using hk); omega))) (fun hHeld=>?_);clear hK K;change wpAnyH _ _ _ _ _ _ _ (Act.put _ (some 25) _) _;refine hdN ?_;have hR5':Row z5 3 1 v5 (m1+m2) (zl (lits++backs)):=by
  have e:zl (lits++backs)=[]++zl lits++zl backs:=by simp [zl]
  rw [e];rw [Nat.zero_add] at hR5;exact hR5
 obtain ⟨g5,c5,rfl,_,hcap5⟩:=hR5'.form' (by omega);have HRU:=Hi (zfu (ints (lits++backs)) (some ⟨g5,0,none⟩) (m1+m2) c5 z5 (IntsIn.row hR5' (fun x hx=>by have:=HBD.out x hx; omega)) (by omega) hcap5 (fun x hx=>by obtain ⟨y,hy,rfl⟩:=List.mem_map.1 hx; have:=HBD.out y hy; omega));have HU50:=Hi (HU40.out.trans hU5 (fun k hk => .inr (HO4.out k (by simpa using hk))));clear hR5 hR5' hU5 hT5 HR4 HO4 HN2 hcap5;refine hdO 7 (fun K hK=>?_);go_simp;refine HRU.out.mono ?_;rintro e z6 ⟨v6,rfl,hR6,hO6,hU6⟩;go_wp2;refine hK.out _ _ (hHeld.then hU6) (fun hHeld=>hdN ?_);clear hK K;obtain ⟨va6,vc6,rfl⟩:=hR6.form;have hb6:=(HBP.out.upd HU50.out (by simp)).upd hU6 (by simp);have k6:=hb6.cell 2 rfl;have f6:=hb6.frz 2;have HB6:=Hi hb6;have HU6:=Hi (HU50.out.then hU6);have HR6:=Hi hR6;have HO6:Hid (∀ k,(Value.slice va6 (ofS (m1+m2) (ints (lits++backs)) (-1)).length vc6).ownBlock=some k→W.heap.size≤k):=Hi (fun k hk=>by have:=hO6 k hk; have:=HU50.out.size; omega);clear hb6 hR6 hO6 hU6 HRU;refine hdT 8 (some 27) ?_;refine hdO 9 (fun K hK=>?_);go_simp;skip;go_wp2;refine hK.out _ _ (hHeld.set _ _ (.inl (by simp)) (by simp)) (fun hHeld=>hdN ?_);clear hK K;refine wpAnyH_done (by kernel_rfl) ?_ 0;skip;clear hHeld k6 f6 HBP k0 k1;have HSE:Hid (ofS (m1+m2) (ints (lits++backs)) (-1)=ofS (lits.length+backs.length) (ints (lits++backs)) (-1)):=Hi (by rw [HL1.out,HL2.out]);have HSL:Hid ((ofS (m1+m2) (ints (lits++backs)) (-1)).length≤316):=Hi (Nat.le_trans (zc0 _ _ _) (by omega));generalize ofS (m1+m2) (ints (lits++backs)) (-1)=steps at *;have HB7:Hid (Blk (z6.setCell ⟨bp,2,none⟩ (.slice va6 steps.length vc6)) bp [.slice (some ⟨g1,0,none⟩) m1 c1,.slice (some ⟨g2,0,none⟩) m2 c2,.slice va6 steps.length vc6,.slice none 0 0] 313):=Hi (HB6.out.set 2 (.slice va6 steps.length vc6));have HU7:Hid (Upd [bp] W (z6.setCell ⟨bp,2,none⟩ (.slice va6 steps.length vc6))):=Hi ((HU6.out.mono (by simp)).setCell (.inl (by simp)) _);have HR7:=Hi (HR6.out.setFar (a:=⟨bp,2,none⟩) (.slice va6 steps.length vc6) (fun e=>by have:=HO6.out _ e; dsimp only at this; omega));have HO7:Hid (∀ k,(Value.slice va6 steps.length vc6).ownBlock=some k→k≠bp):=Hi (fun k e=>by have:=HO6.out k e; omega);clear HB6 HU6 HR6 HO6 HU50 HU40;go_upto_region 5 with fail
 change Code.wp _ _ _ _ (z6.setCell ⟨bp,2,none⟩ (.slice va6 steps.length vc6));generalize z6.setCell ⟨bp,2,none⟩ (.slice va6 steps.length vc6)=w7 at *;have k2:=HB7.out.cell 2 rfl;have HCN:=Hi (KN steps va6 steps.length vc6 w7 (StpIn.row HR7.out rfl) (by have:=HSL.out; omega));go_wp2_with fail
 refine HCN.out.mono ?_;rintro e w8 ⟨rfl,hU8⟩;have HB8:=Hi (HB7.out.upd hU8 (by simp));have HU8:=Hi (HU7.out.trans (fp':=[]) hU8 (by simp));have HR8:=Hi (HR7.out.upd hU8 (by simp));have hcl:(zL steps).length=19:=by have:=(qQ steps steps.length (Nat.le_refl _)).1; rwa [List.take_length] at this
 have hcb : ∀ x∈zL steps,x≤316:=fun x hx=>by have:=(qQ steps steps.length (Nat.le_refl _)).2; rw [List.take_length] at this; have:=this x hx; have:=HSL.out; omega
 have HC19:Hid ((zl (zL steps)).length=19):=Hi (by rw [zq,hcl]);have HFX:Hid (jm (zL steps)=if (xH (ints (zL steps)) 19).length=1 then (if (zL steps).getD 0 0=0 then (zL steps).set 0 1 else (zL steps).set 1 1) else zL steps):=Hi rfl;have HFL:Hid ((jm (zL steps)).length=19):=Hi (by rw [Yg,hcl]);have HFB:Hid (∀ x∈jm (zL steps),x≤316):=Hi (fun x hx=>by
  have hm : ∀ i,x∈(zL steps).set i 1→x≤316:=fun i h=>by rcases List.mem_or_eq_of_mem_set h with h1 | h1; exact hcb x h1; omega
  unfold jm at hx;split at hx
  · split at hx
    · exact hm _ hx
    · exact hm _ hx
  · exact hcb x hx)
 have HCL:=Hi hcl;have HCB:=Hi hcb;have HMDs:Hid (∀ lens,(∃ u,IsUsed (ints (jm (zL steps))) 19 u∧lens=ofL (ints (jm (zL steps))) u 7 19)→MadeO l lits backs steps lens):=Hi (fun lens h=>HMD.out lits backs steps lens HMD1.out HMD2.out HSE.out h);generalize jm (zL steps)=f at *;generalize zL steps=c at *;have hBq:=Blk.new w8 (zl (List.replicate 19 0)) 347;have hbq8:=HB8.out.lt;have hUa8:=(Upd.refl [] w8).alloc (.cells (zl (List.replicate 19 0)).toArray 347);clear hU8 HB7 HU7 HR7 HCN k2 hcl hcb HMD HMD1 HMD2 HSE HSL;go_wp2_with (refine zv rfl 347 _ _ rfl w8.heap.size rfl (zl c) rfl 347 _ hBq (by rw [zq,List.length_replicate]; kernel_rfl) (by rw [HC19.out,zq,List.length_replicate]) (xi _) ?_; intro w9 hB9 hU9)
 have hU89:Upd [] w8 w9:=hUa8.trans hU9 (fun k hk=>by simp at hk; right; omega);have HU9:=Hi (HU8.out.trans (fp':=[]) hU89 (by simp));have HB9:=Hi (HB8.out.upd hU89 (by simp));have HR9:=Hi (HR8.out.upd hU89 (by simp));have HQ10:Hid (W.heap.size≤w8.heap.size∧w8.heap.size≠bp∧(∀ k,(Value.slice va6 steps.length vc6).ownBlock=some k→k≠w8.heap.size)):=Hi ⟨HU8.out.size,Nat.ne_of_gt hbq8,fun k e=>Nat.ne_of_lt (HR8.out.lt k e)⟩;generalize w8.heap.size=q at *;have HBq9:=Hi hB9;have HIc:=Hi (IntsIn.blk hB9 HCL.out (fun x hx=>by have:=HCB.out x hx; omega));have HUSD:=Hi (WW (ints c) (some ⟨q,0,none⟩) 19 19 w9 HIc.out (by omega));clear hBq hUa8 hB9 hU9 hU89 HB8 HU8 HR8;go_wp2_with fail
 refine HUSD.out.mono ?_;rintro e w10 ⟨v10,u10,rfl,hu10,hO10,hU10⟩;obtain ⟨a10,c10,rfl⟩:=hO10.form;rw [zq];have hK:(xH (ints c) 19).length=u10.length:=by
  rw [show (ints c).length=19 by simp [ints,HCL.out]] at hu10;exact (zbG hu10).symm
 have HKK:=Hi hK;have HU10:=Hi (HU9.out.trans (fp':=[]) hU10 (by simp));have HB10:=Hi (HB9.out.upd hU10 (by simp));have HR10:=Hi (HR9.out.upd hU10 (by simp));have HBq10:=Hi (HBq9.out.upd hU10 (by simp));generalize u10.length=K at *;clear hK hu10 hO10 hU10 HU9 HB9 HR9 HBq9 HIc HUSD;go_upto_if 34 with fail
 go_cut [] (fun wx=>Hid (Blk wx q (zl f) 347)∧Hid (Upd [bp] W wx)∧Hid (Blk wx bp [.slice (some ⟨g1,0,none⟩) m1 c1,.slice (some ⟨g2,0,none⟩) m2 c2,.slice va6 steps.length vc6,.slice none 0 0] 313)∧Hid (Row wx 351 3 (.slice va6 steps.length vc6) steps.length (ji steps)))
 case first =>
  by_cases hK1:K=1
  · have hKz:(K:Int)=1:=(by omega);have hgt:c[0]? =some (c.getD 0 0):=(by rw [List.getD_eq_getElem?_getD,List.getElem?_eq_getElem (by rw [HCL.out]; omega)]; rfl);have c0:=HBq10.out.cell 0 (zB c 0 _ hgt);have hgt1:c[1]? =some (c.getD 1 0):=(by rw [List.getD_eq_getElem?_getD,List.getElem?_eq_getElem (by rw [HCL.out]; omega)]; rfl);have c1':=HBq10.out.cell 1 (zB c 1 _ hgt1);have f0:=HBq10.out.frz 0;have f1:=HBq10.out.frz 1;have HX0:Hid (c.getD 0 0=c.getD 0 0):=Hi rfl;obtain ⟨x0,hx0⟩ : ∃ x,c.getD 0 0=x:=⟨_,rfl⟩;rw [hx0] at c0;have HXE:=Hi hx0;clear hgt hgt1 hx0;by_cases hz:x0=0
    · have hzz:(x0:Int)=0:=(by omega);have HF:Hid (f=c.set 0 1):=Hi (by rw [HFX.out,HKK.out,if_pos hK1,if_pos (by rw [HXE.out]; exact hz)]);have HB1:=Hi (HBq10.out.set 0 (.int .i64 1));have HB2:=Hi (HB10.out.setFar (a:=⟨q,0,none⟩) (.int .i64 1) (Ne.symm HQ10.out.2.1));have HR2:=Hi (HR10.out.setFar (a:=⟨q,0,none⟩) (.int .i64 1) (fun e=>HQ10.out.2.2 q e rfl));have HU2:=Hi (HU10.out.setCell (p:=⟨q,0,none⟩) (.inr HQ10.out.1) (.int .i64 1));go_wp2;go_meet;exact ⟨Hi (by rw [HF.out,xL]; exact HB1.out),HU2,HB2,HR2⟩
    · have hzz : ¬ (x0:Int)=0:=(by omega);have HF:Hid (f=c.set 1 1):=Hi (by rw [HFX.out,HKK.out,if_pos hK1,if_neg (by rw [HXE.out]; exact hz)]);have HB1:=Hi (HBq10.out.set 1 (.int .i64 1));have HB2:=Hi (HB10.out.setFar (a:=⟨q,1,none⟩) (.int .i64 1) (Ne.symm HQ10.out.2.1));have HR2:=Hi (HR10.out.setFar (a:=⟨q,1,none⟩) (.int .i64 1) (fun e=>HQ10.out.2.2 q e rfl));have HU2:=Hi (HU10.out.setCell (p:=⟨q,1,none⟩) (.inr HQ10.out.1) (.int .i64 1));go_wp2;go_meet;exact ⟨Hi (by rw [HF.out,xL]; exact HB1.out),HU2,HB2,HR2⟩
  · have hKz : ¬ (K:Int)=1:=(by omega);have HF:Hid (f=c):=Hi (by rw [HFX.out,HKK.out,if_neg hK1]);go_wp2;go_meet;exact ⟨Hi (by rw [HF.out]; exact HBq10.out),HU10,HB10,HR10⟩
 case rest =>
  obtain ⟨HBq,HU,HB,HR⟩:=hcut;have HIf:=Hi (IntsIn.blk HBq.out HFL.out (fun x hx=>by have:=HFB.out x hx; omega));have HIL19:Hid ((ints f).length=19):=Hi (by simp [ints,HFL.out]);have HOF:=Hi (zc2 (ints f) (some ⟨q,0,none⟩) 19 19 ((7:Nat):Int) wc HIf.out (by omega));clear HBq10 HU10 HB10 HR10 HFX HKK HIf HCB HC19;go_wp2_with fail
  refine HOF.out.mono ?_;rintro e w11 ⟨v4,u4,rfl,hu4,hof,hU11⟩;rw [HIL19.out] at hu4;obtain ⟨o4,rfl,ho4,hO4⟩:=XB hof (by omega) (by omega) (by omega) (by have:=hu4.le; omega);have HMF:=Hi (HMDs.out _ ⟨u4,hu4,rfl⟩);have hbw:=HB.out.lt;have hb11:=HB.out.upd hU11 (by simp);have k3:=hb11.cell 3 rfl;have f3:=hb11.frz 3;have hB12:=hb11.set 3 (.slice (some ⟨o4,0,none⟩) 19 19);simp only [List.set_cons_zero,List.set_cons_succ] at hB12;have HU12:=Hi ((HU.out.trans (fp':=[]) hU11 (by simp)).setCell (p:=⟨bp,3,none⟩) (.inl (by simp)) (.slice (some ⟨o4,0,none⟩) 19 19));have HR12:=Hi ((HR.out.upd hU11 (by simp)).setFar (a:=⟨bp,3,none⟩) (.slice (some ⟨o4,0,none⟩) 19 19) (fun e=>HO7.out _ e rfl));have HO12:=Hi (hO4.setFar (a:=⟨bp,3,none⟩) (.slice (some ⟨o4,0,none⟩) 19 19) (by show o4≠bp; omega));have hob:o4≠bp:=by omega
  clear hof hu4 ho4 hO4 hU11 hb11 HOF HB HU HR HBq;go_wp2_with (first
   | (refine zx rfl 313 _ rfl bp rfl 313 _ hB12 _ Tryz.underlying313 rfl (by rw [Yu]; rfl) ?_)
   | (refine zv rfl 313 _ _ rfl bp rfl _ rfl 313 _ hB12 (by rw [Yu]; rfl) rfl (by simp [Value.oneCell']) ?_; intro w14 hB14 hU14))
  refine bodyPost_ret (results_cell_row rfl _ _ _ _ _ _ _ rfl hB14 Tryz.underlying313 rfl (by rw [Yu]; rfl)) rfl ?_;have hUf:Upd [bp] W w14:=HU12.out.then hU14;refine ⟨g1,c1,g2,c2,o4,.slice va6 steps.length vc6,lits,backs,_,steps,by rw [HL1.out,HL2.out],HMF.out,?_,?_,?_,HO12.out.upd hU14 (by simpa using hob),HUW.out.trans hUf (fun k hk => .inr (by have:=HBQ.out; simp at hk; omega))⟩
  · rw [HL1.out]; exact HLR1.out.upd hUf (by simp [Value.ownBlock]; omega)
  · rw [HL2.out]; exact HLR2.out.upd hUf (by simp [Value.ownBlock]; omega)
  · exact HR12.out.upd hU14 (fun k e hk=>HO7.out k e (by simpa using hk))
end Go.Proofs.YtfkenhihcmmgkaaGreatDoor
namespace Go.Proofs.YtfkenhihcmmgkaaGreatDoor
open Go.RowKit
@[local go_sem high] theorem zhi {P:Program} (w:World) (ts:Array TypeId) (t:TypeId) (k k' k'':IntKind) (x y z:Int) :
 (Builtin.min_ ts t #[.int k x,.int k' y,.int k'' z]).run P w = .ok (.int k (min (min x y) z)) w:=by
 have e:(if z<(if y<x then y else x) then z else (if y<x then y else x))=min (min x y) z:=by
  split<;>split<;>omega
 have h:(Builtin.min_ ts t #[.int k x,.int k' y,.int k'' z]).run P w = .ok (.int k (if z<(if y<x then y else x) then z else (if y<x then y else x))) w:=by
  simp [Builtin.min_,Builtin.min2]
 rw [h,e]
def jp (x:Int):Int:=max 0 (min x 1099511627776)
theorem zdQ (x:Int):0≤jp x∧jp x≤1099511627776:=by unfold jp; omega
theorem zeD (x:Int) (w:World):Calls Tryz.prog 334 #[.int .i64 x] w fun e w'=>e = .returned (.int .i64 (jp x))∧w=w':=by
 go_enter Tryz.func334,Tryz.ntmps334;go_wp2;go_returns;exact ⟨rfl,rfl⟩
def yg (l u:List Int):Nat→Int
 | 0=>0
 | i+1=>yg l u i+max 0 (min (l.getD i 0) 15)*jp (u.getD i 0)
theorem Zk (l u:List Int) (i:Nat):0≤yg l u i∧yg l u i≤i*16492674416640:=by
 induction i with
 | zero=>simp [yg]
 | succ i ih =>
   simp only [yg];have h:=zdQ (u.getD i 0);have h1:0≤max 0 (min (l.getD i 0) 15)∧max 0 (min (l.getD i 0) 15)≤15:=(by omega);generalize max 0 (min (l.getD i 0) 15)=a at *;generalize jp (u.getD i 0)=b at *;have h2:0≤a*b:=Int.mul_nonneg h1.1 h.1;have h3:a*b≤15*1099511627776:=Int.le_trans (Int.mul_le_mul_of_nonneg_right h1.2 h.1) (Int.mul_le_mul_of_nonneg_left h.2 (by decide));omega
theorem Vh (x y:Option Addr) (cx cy:Nat) (l u:List Int) (w:World) (hI:IntsIn w x l.length l) (hM:IntsIn w y u.length u) (hl:l.length≤9223372036854775807) (hu:u.length≤9223372036854775807) :
 Calls Tryz.prog 305 #[.slice x l.length cx,.slice y u.length cy] w fun e w'=>e = .returned (.int .i64 (yg l u (min (min l.length u.length) 300))) ∧ ∃ n,w'=w.drewN n:=by
 have hN:Hid (min (min l.length u.length) 300≤300):=Hi (by omega);have hNl:Hid (min (min l.length u.length) 300≤l.length):=Hi (by omega);have hNu:Hid (min (min l.length u.length) 300≤u.length):=Hi (by omega);have hNe:Hid (((min (min l.length u.length) 300:Nat):Int)=min (min (l.length:Int) (u.length:Int)) 300):=Hi (by omega);generalize min (min l.length u.length) 300=N at *;have HI:=Hi hI;have HM:=Hi hM;clear hI hM;go_enter Tryz.func305,Tryz.ntmps305;have hN':=hN.out;have HM3:=Hi (@zhi Tryz.prog);go_wp2;rw [show min (l.length:Int) (min (u.length:Int) 300)=(N:Int) by have:=hNe.out; omega];go_loopg [4,11] N (fun g s4 s11 wr => ∃ i n,i≤N∧g=N-i∧s11 = .int .i64 (i:Nat)∧s4 = .int .i64 (yg l u i)∧w.drewN n=wr)
 case atStart=>exact ⟨0,0,by omega,rfl,rfl,rfl,rfl⟩
 case round =>
  obtain ⟨i,n,hin,rfl,rfl,rfl,rfl⟩:=hrel;have hcb:=Zk l u i;have hi300:(i:Int)*16492674416640≤300*16492674416640:=by omega
  by_cases hc:i<N
  · have hcz:(i:Int)<(N:Int):=(by omega);have hil:i<l.length:=(by have:=hNl.out; omega);have hiu:i<u.length:=(by have:=hNu.out; omega);obtain ⟨b1,o1,rfl,c1,r1,r2⟩:=HI.out.cell i hil;obtain ⟨b2,o2,rfl,c2,r3,r4⟩:=HM.out.cell i hiu;have hst:=Hi (show yg l u (i+1)=yg l u i+max 0 (min (l[i]) 15)*jp (u[i]) by
     simp only [yg,List.getD,List.getElem?_eq_getElem hil,List.getElem?_eq_getElem hiu,Option.getD])
    have hz:decide ((l.length:Int)≤(i:Int))=false:=(by simp; omega);have hz2:decide ((u.length:Int)≤(i:Int))=false:=(by simp; omega);have hnb:=zdQ u[i];generalize u[i]=y at *;generalize l[i]=x at *;have hab:0≤max 0 (min x 15)∧max 0 (min x 15)≤15:=(by omega);have h2:0≤max 0 (min x 15)*jp y:=Int.mul_nonneg hab.1 hnb.1;have h3:max 0 (min x 15)*jp y≤16492674416640:=Int.le_trans (Int.mul_le_mul_of_nonneg_right hab.2 hnb.1) (Int.mul_le_mul_of_nonneg_left hnb.2 (by decide));generalize yg l u i=c at *;have d1:(w.drewN n).cell? ⟨b1,o1+i,none⟩=some (.int .i64 x):=c1;have d2:(w.drewN n).cell? ⟨b2,o2+i,none⟩=some (.int .i64 y):=c2;clear c1 c2;generalize hw1:w.drewN n=w1 at *;have HW:=Hi hw1;clear hw1;have HN:=Hi (fun w'=>zeD y w');generalize jp y=ny at *;clear hN';go_wp2
    go_quiet ((go_at_call 334; exact Calls.quiet_of_same ((HN.out _).mono fun e w' ⟨he,hw⟩=>⟨he,hw.symm⟩)))
    go_wp2;go_roundg (N-(i+1))
    case measure=>omega
    case rel=>exact ⟨i+1,n+nq,by omega,rfl,by go_num,by rw [hst.out],by rw [← HW.out]; simp⟩
  · have hcz : ¬ (i:Int)<(N:Int):=(by omega);have hi:i=N:=(by omega);rw [hi];clear hi hc;generalize hcc:yg l u N=c at *;have HCC:=Hi hcc;clear hcc;go_wp2;go_returns;exact ⟨by rw [HCC.out]; rfl,n,rfl⟩
end Go.Proofs.YtfkenhihcmmgkaaGreatDoor
