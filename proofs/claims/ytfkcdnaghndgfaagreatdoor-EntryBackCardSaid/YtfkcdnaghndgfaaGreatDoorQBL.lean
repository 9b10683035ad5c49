/- slices.Clone of numbers; lens.Trim: their walks. -/
import Derived.Lib.SliceRun
import Derived.ArgAppend
import Derived.Test.YtfkcdnaghndgfaaGreatDoorQAC
import Derived.Test.YtfkcdnaghndgfaaGreatDoorQBE
import Derived.Test.YtfkcdnaghndgfaaGreatDoorQBD
import Derived.Test.YtfkcdnaghndgfaaGreatDoorQAB
set_option linter.unusedVariables false
set_option linter.unusedSimpArgs false
set_option linter.unusedSectionVars false
namespace Go.Proofs.YtfkcdnaghndgfaaGreatDoor
open Go.RowKit
def ziq (l:List Nat) (w:World) (e:Ending) (w':World):Prop := ∃ v,e = .returned v∧OwnX w w' 3 v (zg l)∧Upd [] w w'
set_option maxRecDepth 100000 in
set_option maxHeartbeats 6400000 in
theorem zdG (l:List Nat) (ad:Addr) (n c:Nat) (w:World) (hl:l.length=n) (hc : ∀ j u,(zg l)[j]? =some u→w.cell? (ad.add j)=some u) (hn:n≤1000000) :
 Calls Tryz.prog 190 #[.slice (some ad) n c] w fun e w'=>ziq l w e w':=by
 obtain ⟨i0,hi,hz0,hz1,hz2⟩:=info_parts qJ
 have hnil : ∀ w,(binOp .eql 98 (.slice (some ad) n c) (.slice none 0 0)).run Tryz.prog w = .ok (.bool false) w:=fun w=>Lib.run_eql_slice_nil w 98 3 (some ad) n c 0 0 Tryz.underlying98
 go_enter Tryz.func190,Tryz.ntmps190
 have HL:Hid ((zg l).length=n*1):=Lib.hid (by rw [zn,hl,Nat.mul_one])
 have HN:Hid (∀ j u,(zg l)[j]? =some u→(w.alloc (.cells #[] 3)).cell? (ad.add j)=some u):=Lib.hid (fun j u hj=>by
  have h7:=hc j u hj
  exact (((Upd.refl [] w).alloc (.cells #[] 3)).cell (World.block_lt_of_cell? w _ h7) (by simp)).trans h7)
 clear hl hc
 go_wp2_with (at_builtin; refine zz _ rfl _ _ 98 rfl 3 i0 _ 1 8 Tryz.underlying98 hi hz0 hz1 hz2 rfl (by omega) (.slice (some ⟨w.heap.size,0,none⟩) 0 0) 0 [] rfl (Row.new w [] 3 0 1 (by unfold maxLen; omega) rfl) ad n c (zg l) rfl HL.out HN.out (xa _) (by unfold maxLen; omega) (by omega) ?_)
 intro v5 w5 hR5 hU5 hT5
 have HR:Hid (OwnX w w5 3 v5 (zg l)):=Lib.hid (by
  refine ⟨?_,fun k hk=>?_⟩
  · rw [HL.out,Nat.mul_one]
    exact hR5
  · rcases hT5 with h | ⟨g,h1,h2⟩
    · rw [hk] at h
      simp [Value.ownBlock] at h
      omega
    · rw [hk] at h1
      cases h1
      have:=((Upd.refl [] w).alloc (.cells #[] 3)).size
      omega)
 have HU:Hid (Upd [] w w5):=Lib.hid (((Upd.refl [] w).alloc (.cells #[] 3)).trans hU5 (fun k hk=>by
  simp [Value.ownBlock] at hk
  exact .inr (by omega)))
 clear hR5 hU5 hT5
 go_wp2
 go_ret
 exact ⟨_,rfl,HR.out,HU.out⟩
structure TrimO (l:List Nat) (least:Int) (n m:Nat):Prop where
 le:m≤n
 zero : ∀ i,m≤i→i<n→l.getD i 0=0
 few:m=n∨least≤m
 last:m=0∨(m:Int)≤least∨l.getD (m-1) 0≠0
def zie (l:List Nat) (least:Int) (n:Nat) (w:World) (e:Ending) (w':World):Prop := ∃ v m,e = .returned v∧TrimO l least n m∧OwnX w w' 3 v (zg (l.take m))∧Upd [] w w'
set_option maxRecDepth 100000 in
set_option maxHeartbeats 6400000 in
theorem zab (l:List Nat) (b off n c:Nat) (least:Int) (w:World) (hl:l.length=n) (hnc:n≤c) (hc : ∀ j,(h:j<l.length)→w.cell? ⟨b,off+j,none⟩=some (.int .i64 (l[j]:Nat))) (hn:n≤1000000) :
 Calls Tryz.prog 156 #[.slice (some ⟨b,off,none⟩) n c,.int .i64 least] w fun e w'=>zie l least n w e w':=by
 have HC:=Lib.hid hc
 have HLN:=Lib.hid hl
 clear hc hl
 go_enter Tryz.func156,Tryz.ntmps156
 go_wp2
 go_loopg [5] 1000000 (fun gg s5 wr => ∃ m:Nat,m≤n∧gg=1000000-(n-m)∧s5 = .int .i64 (m:Nat)∧wr=w∧Hid (∀ i,m≤i→i<n→l.getD i 0=0)∧Hid (m=n∨least≤m))
 case atStart=>exact ⟨n,by omega,by omega,rfl,rfl,Lib.hid (fun i h1 h2=>by omega),Lib.hid (.inl rfl)⟩
 case round =>
  obtain ⟨m,hmn,rfl,rfl,hwr,HZ,HF⟩:=hrel
  subst hwr
  have hfin : ∀ (HLa:Hid (m=0∨(m:Int)≤least∨l.getD (m-1) 0≠0)),Calls Tryz.prog 190 #[.slice (some ⟨b,off,none⟩) m c] wr fun e w'=>zie l least n wr e w':=fun HLa=>by
   refine (zdG (l.take m) ⟨b,off,none⟩ m c wr (by rw [List.length_take,HLN.out]; omega) (fun j u hj=>?_) (by omega)).mono ?_
   · rw [zg,List.getElem?_map] at hj
     obtain ⟨x,hx,rfl⟩:=Option.map_eq_some_iff.1 hj
     obtain ⟨hj1,rfl⟩:=List.getElem?_eq_some_iff.1 hx
     rw [kx,List.getElem_take]
     exact HC.out j (by rw [List.length_take] at hj1; omega)
   · rintro e w' ⟨v,rfl,h1,h2⟩
     exact ⟨v,m,rfl,⟨hmn,HZ.out,HF.out,HLa.out⟩,h1,h2⟩
  have HFIN:=Lib.hid hfin
  clear hfin
  have hmc:(m:Int)≤(c:Int):=by omega
  have hm0:(0:Int)≤(m:Int):=by omega
  have hend : ∀ (HLa:Hid (m=0∨(m:Int)≤least∨l.getD (m-1) 0≠0)),True:=fun _=>trivial
  clear hend
  rcases Nat.eq_zero_or_pos m with h0 | h0
  · subst h0
    have HCL:=Lib.hid (HFIN.out (Lib.hid (.inl rfl)))
    clear HFIN
    go_wp2_with fail
    refine HCL.out.mono ?_
    rintro e w' ⟨v,m,rfl,h1,h2,h3⟩
    have HA:=Lib.hid (And.intro h1 (And.intro h2 h3))
    clear h1 h2 h3 HCL
    go_wp2
    go_ret
    exact ⟨v,m,rfl,HA.out.1,HA.out.2.1,HA.out.2.2⟩
  · have h0z:(0:Int)<(m:Int):=by omega
    by_cases h1:(m:Int)≤least
    · have HCL:=Lib.hid (HFIN.out (Lib.hid (.inr (.inl h1))))
      clear HFIN
      have h1z : ¬ least<(m:Int):=by omega
      go_wp2_with fail
      refine HCL.out.mono ?_
      rintro e w' ⟨v,m,rfl,h1,h2,h3⟩
      have HA:=Lib.hid (And.intro h1 (And.intro h2 h3))
      clear h1 h2 h3 HCL
      go_wp2
      go_ret
      exact ⟨v,m,rfl,HA.out.1,HA.out.2.1,HA.out.2.2⟩
    · have h1z:least<(m:Int):=by omega
      obtain ⟨p,rfl⟩ : ∃ p,m=p+1:=⟨m-1,by omega⟩
      have hpl:p<l.length:=by rw [HLN.out]; omega
      have hcp:=HC.out p hpl
      have HG:Hid (l.getD p 0=l[p]):=Lib.hid (by simp [List.getD_eq_getElem?_getD,hpl])
      generalize l[p]=x at *
      have hw1:IntKind.i64.wrap (((p+1:Nat):Int)-1)=(p:Int):=by rw [IntWalk.i64_in _ (by omega)]; omega
      clear hpl
      by_cases hx:x=0
      · subst hx
        clear HFIN
        go_wp2
        go_roundg (1000000-(n-p))
        · exact ⟨p,by omega,rfl,by first | rfl | go_num,rfl,Lib.hid (fun i hi hin=>by
           rcases Nat.lt_or_ge i (p+1) with h | h
           · obtain rfl:i=p:=by omega
             exact HG.out
           · exact HZ.out i h hin),Lib.hid (.inr (by omega))⟩
        · omega
      · have hxz : ¬ (x:Int)=0:=by omega
        have HCL:=Lib.hid (HFIN.out (Lib.hid (.inr (.inr (by rw [Nat.add_sub_cancel,HG.out]; exact hx)))))
        clear HFIN
        go_wp2_with fail
        refine HCL.out.mono ?_
        rintro e w' ⟨v,m,rfl,h1,h2,h3⟩
        have HA:=Lib.hid (And.intro h1 (And.intro h2 h3))
        clear h1 h2 h3 HCL
        go_wp2
        go_ret
        exact ⟨v,m,rfl,HA.out.1,HA.out.2.1,HA.out.2.2⟩
end Go.Proofs.YtfkcdnaghndgfaaGreatDoor
namespace Go.Proofs.YtfkcdnaghndgfaaGreatDoor
theorem xf (n:Nat) (f:Nat→Nat) (i:Nat) (h:i<n):((List.range n).map f).getD i 0=f i:=by
 simp [List.getD_eq_getElem?_getD,h]
theorem VQ {many:List Int} {u:List Nat} {L n:Nat} (h:u.length≠1):ofL many u L n=(List.range n).map fun s=>qt many u L s:=by
 unfold ofL
 rw [if_neg h]
theorem qL (many:List Int) (u:List Nat) (L n:Nat):(ofL many u L n).length=n:=by
 unfold ofL
 split<;>simp
structure Fits (many:List Int) (u:List Nat) (L n:Nat) (l:List Nat):Prop where
 len:l.length=n
 iff : ∀ i,i<n→(0<l.getD i 0↔0<many.getD i 0)
 le : ∀ i,i<n→l.getD i 0≤L
 fall : ∀ i j,i≤j→(hj:j<u.length)→l.getD (u.getD j 0) 0≤l.getD (u.getD i 0) 0
 one:u.length=1→l.getD (u.getD 0 0) 0=1
 none:u=[]→xL l=0
 two:2≤u.length→xL l=32768
theorem WN (n:Nat) (f:Nat→Nat):xL ((List.range n).map f)=yt n (fun s=>wt (f s)):=by
 unfold xL yt
 rw [List.map_map]
 rfl
theorem Xq {u:List Nat} {i:Nat} (h:i<u.length):u.getD i 0∈u:=by
 rw [List.getD_eq_getElem?_getD,List.getElem?_eq_getElem h]
 exact List.getElem_mem h
theorem Jn {many:List Int} {n:Nat} {u:List Nat} (hn:many.length=n) (hu:IsUsed many n u) (L:Nat) (h1:1≤L) (h15:L≤15) (hk:u.length≤2^L):Fits many u L n (ofL many u L n):=by
 rcases Nat.lt_or_ge u.length 2 with h2 | h2
 · rcases Nat.lt_or_ge u.length 1 with h0 | h0
   · have hu0:u=[]:=List.eq_nil_of_length_eq_zero (by omega)
     have hl : ∀ s,qt many u L s=0:=fun s=>by subst hu0; simp [qt,jA]
     have he:ofL many u L n=(List.range n).map fun s=>0:=by
      rw [VQ (by omega)]
      exact List.map_congr_left fun s _=>hl s
     rw [he]
     refine ⟨by simp,fun i hi=>?_,fun i hi=>by rw [xf n _ i hi]; omega,fun i j hij hj=>by omega,fun h=>by omega,fun _=>?_,fun h=>by omega⟩
     · rw [xf n _ i hi]
       constructor
       · intro h; omega
       · intro h
         have:=(hu.mem i).2 ⟨hi,h⟩
         rw [hu0] at this
         simp at this
     · rw [WN]
       have:yt n (fun s=>wt 0)=n*wt 0:=kY n _
       rw [this]
       simp [wt]
   · have h1e:u.length=1:=by omega
     obtain ⟨s,rfl⟩ : ∃ s,u=[s]:=by
      cases u with
      | nil=>simp at h1e
      | cons s r=>cases r with
        | nil=>exact ⟨s,rfl⟩
        | cons=>simp at h1e
     have hs:=(hu.mem s).1 (by simp)
     have he:ofL many [s] L n=(List.replicate n 0).set s 1:=by simp [ofL]
     have hg : ∀ i,i<n→(ofL many [s] L n).getD i 0=if i=s then 1 else 0:=by
      intro i hi
      rw [he,List.getD_eq_getElem?_getD,List.getElem?_set]
      by_cases e:s=i
      · subst e; simp [hi]
      · rw [if_neg e,if_neg (fun q=>e q.symm)]; simp [hi]
     refine ⟨by rw [he]; simp,fun i hi=>?_,fun i hi=>by rw [hg i hi]; split<;>omega,fun i j hij hj=>?_,fun _=>?_,fun h=>by simp at h,fun h=>by simp at h⟩
     · rw [hg i hi]
       have:=hu.mem i
       simp at this
       by_cases e:i=s
       · rw [if_pos e]; exact ⟨fun _=>by rw [e]; exact hs.2,fun _=>by omega⟩
       · rw [if_neg e]
         constructor
         · intro q; omega
         · intro q; exact absurd (this.2 ⟨hi,by simpa [List.getD_eq_getElem?_getD] using q⟩) e
     · simp at hj
       obtain rfl:j=0:=by omega
       obtain rfl:i=0:=by omega
       exact Nat.le_refl _
     · show (ofL many [s] L n).getD s 0=1
       rw [hg s hs.1,if_pos rfl]
 · obtain ⟨_,c,c1,c2,c3,c4,c5,_⟩:=VL many u L hu.srt h2 hk
   have hlt : ∀ s∈u,s<n:=fun s hs=>((hu.mem s).1 hs).1
   have hc : ∀ i,i<u.length→qt many u L (u.getD i 0)=c i:=fun i hi=>by
    rw [List.getD_eq_getElem?_getD,List.getElem?_eq_getElem hi]
    exact c4 i hi
   rw [VQ (by omega)]
   refine ⟨by simp,fun i hi=>?_,fun i hi=>?_,fun i j hij hj=>?_,fun h=>by omega,fun h=>by subst h; simp at h2,fun _=>?_⟩
   · rw [xf n _ i hi]
     have hm:=hu.mem i
     by_cases hiu:i∈u
     · obtain ⟨k,hk2,rfl⟩:=List.getElem_of_mem hiu
       rw [c4 k hk2]
       exact ⟨fun _=>(hm.1 hiu).2,fun _=>by have:=(c1 k hk2).1; omega⟩
     · rw [c5 i hiu]
       exact ⟨fun q=>by omega,fun q=>absurd (hm.2 ⟨hi,q⟩) hiu⟩
   · rw [xf n _ i hi]
     by_cases hiu:i∈u
     · obtain ⟨k,hk2,rfl⟩:=List.getElem_of_mem hiu
       rw [c4 k hk2]
       exact (c1 k hk2).2
     · rw [c5 i hiu]; omega
   · rw [xf n _ _ (hlt _ (Xq hj)),xf n _ _ (hlt _ (Xq (by omega))),hc j hj,hc i (by omega)]
     exact c2 i j hij
   · rw [WN,zcV n _ u hu.nodup hlt (fun s _ hs=>by rw [c5 s hs]; simp [wt]),zgC]
     have e1:yt u.length (fun i=>wt (qt many u L (u.getD i 0)))=yt u.length (fun i=>2^(15-L)*2^(L-c i)):=xU fun i hi=>by
      rw [hc i hi]
      have:=c1 i hi
      unfold wt
      rw [if_neg (by omega),← Nat.pow_add]
      congr 1
      omega
     have e2 : ∀ m,yt m (fun i=>2^(15-L)*2^(L-c i))=2^(15-L)*yt m (fun i=>2^(L-c i)):=by
      intro m
      induction m with
      | zero=>rfl
      | succ m ih=>rw [yd,yd,ih,Nat.mul_add]
     rw [e1,e2,c3,← Nat.pow_add]
     have:15-L+L=15:=by omega
     rw [this]
end Go.Proofs.YtfkcdnaghndgfaaGreatDoor
