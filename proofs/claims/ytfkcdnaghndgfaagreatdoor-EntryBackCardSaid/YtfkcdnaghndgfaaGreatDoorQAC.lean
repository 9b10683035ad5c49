/- slices.Repeat of one integer; math/bits.Mul by one: walks. -/
import Derived.Laws.CopyOwn
import Derived.Test.YtfkcdnaghndgfaaGreatDoorQAB
import Derived.Test.YtfkcdnaghndgfaaGreatDoorQAA
import Derived.Test.YtfkcdnaghndgfaaGreatDoorRows
import Derived.WalkKit
import Derived.StillTailTactics
import Derived.BigQuiet
import Derived.Deep.RegionHeld3
import Derived.Deep.RegionLaw
import Derived.Deep.DeepCutAuto
import Derived.Deep.DeepFit
import Derived.Deep.LoopGhost
import Derived.Deep.Light
set_option linter.unusedVariables false
set_option linter.unusedSimpArgs false
set_option linter.unusedSectionVars false
namespace Go.Proofs.YtfkcdnaghndgfaaGreatDoor
open Go.RowKit
theorem ze3 (y:Nat) (w:World) (hy:y<4294967296) :
 Calls Tryz.prog 212 #[.int .u64 1,.int .u64 (y:Nat)] w fun e w'=>e = .returned (.tuple #[.int .u64 0,.int .u64 (y:Nat)])∧w=w':=by
 have hA:bits .and .u64 1 4294967295=1:=by rfl
 have hB:bits .and .u64 (y:Int) 4294967295=(y:Int):=by
  have h1:(BitVec.ofInt 64 (y:Int)).toNat=y:=by
   rw [BitVec.ofInt_natCast,BitVec.toNat_ofNat]; exact Nat.mod_eq_of_lt (by omega)
  have h2:(BitVec.ofInt 64 4294967295).toNat=2^32-1:=by rfl
  show IntKind.u64.wrap ((BitVec.ofInt 64 (y:Int) &&& BitVec.ofInt 64 4294967295).toNat:Int)=_
  rw [BitVec.toNat_and,h1,h2,Nat.and_two_pow_sub_one_eq_mod,IntKind.wrap_u64]
  omega
 have hd:(y:Int)/4294967296=0:=by omega
 have hw:IntKind.u64.wrap (y:Int)=(y:Int):=by rw [IntKind.wrap_u64]; omega
 have hz:IntKind.u64.wrap 0=0:=by rfl
 have hm:(1:Int)*(y:Int)=(y:Int):=by omega
 have hB0:bits .and .u64 0 4294967295=0:=by rfl
 go_enter Tryz.func212,Tryz.ntmps212
 go_wp2
 go_returns
 exact ⟨rfl,rfl⟩
theorem mul_one (y:Nat) (w:World) (hy:y<4294967296) :
 Calls Tryz.prog 184 #[.int .u64 1,.int .u64 (y:Nat)] w fun e w'=>e = .returned (.tuple #[.int .u64 0,.int .u64 (y:Nat)])∧w=w':=by
 go_enter Tryz.func184,Tryz.ntmps184
 go_wp2_with fail
 refine (ze3 y w hy).mono ?_
 rintro e w' ⟨rfl,rfl⟩
 go_wp2
 go_returns
 exact ⟨rfl,rfl⟩
theorem XE {α:Type} (n k m:Nat) (v z:α) (h:k≤m):splice (List.replicate n v++List.replicate m z) n (List.replicate k v)=List.replicate (n+k) v++List.replicate (m-k) z:=by
 unfold splice
 rw [List.length_replicate,List.take_left' (by simp),← List.append_assoc,List.replicate_append_replicate,List.drop_append,List.length_replicate]
 simp
theorem Row.blk {w:World} {e:TypeId} {g n:Nat} {xs:List Value} (h:Row w e 1 (.slice (some ⟨g,0,none⟩) n n) n xs):Blk w g xs e:=by
 rcases h.2 with h2 | ⟨g',cap,cur,hv,hb,hg,hle,hmx,hcs,hr⟩
 · cases h2.1
 · cases hv
   unfold Blk
   rw [hg,← hr,← hcs,List.take_of_length_le (by simp),Array.toArray_toList]
theorem Blk.row {w:World} {e:TypeId} {g:Nat} {xs:List Value} (h:Blk w g xs e) (n:Nat) (hn:xs.length=n) (hm:n≤maxLen):Row w e 1 (.slice (some ⟨g,0,none⟩) n n) n xs :=
 ⟨by omega,.inr ⟨g,n,xs.toArray,rfl,Nat.zero_le _,h,Nat.le_refl _,hm,by simp [hn],by rw [Nat.mul_one,List.take_of_length_le (by simp [hn])]⟩⟩
set_option maxRecDepth 100000 in
set_option maxHeartbeats 1600000 in
theorem Yj (g0 off c0 n:Nat) (v:Int) (w:World) (hc:w.cell? ⟨g0,off,none⟩=some (.int .i64 v)) (hn1:1≤n) (hn:n≤1000) :
 Calls Tryz.prog 151 #[.slice (some ⟨g0,off,none⟩) 1 c0,.int .i64 (n:Nat)] w fun e w'=>e = .returned (.slice (some ⟨w.heap.size,0,none⟩) n n) ∧
  Row w' 3 1 (.slice (some ⟨w.heap.size,0,none⟩) n n) n (List.replicate n (.int .i64 v))∧Upd [] w w'∧w.heap.size<w'.heap.size:=by
 obtain ⟨i0,hi0,hz0,hz1,hz2⟩:=info_parts qJ
 have hsz:(Tryz.prog.info? 3).map (·.size)=some 1:=by rw [hi0]; simp [hz1]
 have hM:=Lib.hid (mul_one n w (by omega))
 have hg0:g0<w.heap.size:=World.block_lt_of_cell? w _ hc
 have hnn:decide ((n:Int)<0)=false:=decide_eq_false (by omega)
 have hnm:decide (9223372036854775807<(n:Int))=false:=decide_eq_false (by omega)
 have hw1:IntKind.u64.wrap (n:Int)=(n:Int):=by rw [IntKind.wrap_u64]; omega
 have hw2:IntKind.i64.wrap (n:Int)=(n:Int):=IntWalk.i64_in _ (by omega)
 go_enter Tryz.func151,Tryz.ntmps151
 go_wp2_with fail
 refine hM.out.mono ?_
 rintro e w1 ⟨rfl,rfl⟩
 go_upto_region 7 with (refine QG _ rfl _ _ 98 rfl 3 i0 _ Tryz.underlying98 hi0 hz0 hz1 rfl .i64 .i64 _ _ n rfl rfl rfl rfl (by rw [hz2]; omega) (by unfold maxLen; omega) ?_; intro w2 hR2 hU2 hs2)
 have hB2:=hR2.blk
 have hb2:=hU2.below
 obtain ⟨m,rfl⟩ : ∃ m,n=m+1:=⟨n-1,by omega⟩
 have hmin:[Value.int .i64 v].length=Nat.min 1 (m+1):=by simp
 have hc2:w2.cell? ⟨g0,off,none⟩=some (.int .i64 v):=(hU2.at hg0 (by simp) off).trans hc
 have hsrc:0<[Value.int .i64 v].length→some (⟨w.heap.size,0,none⟩:Addr)=some ⟨w.heap.size,0,none⟩ ∧ ∃ ad,some (⟨g0,off,none⟩:Addr)=some ad ∧ ∀ j u,[Value.int .i64 v][j]? =some u→w2.cell? (ad.add j)=some u:=fun _=>⟨rfl,_,rfl,fun j u hj=>by
  cases j with
  | zero=>cases hj; exact hc2
  | succ j=>cases hj⟩
 obtain ⟨Z,hZ⟩ : ∃ Z,Z=List.replicate (m+1) (Value.int .i64 0):=⟨_,rfl⟩
 rw [← hZ] at hB2
 have hZ':=Lib.hid hZ
 have hZl:Z.length=m+1:=by rw [hZ]; simp
 clear hZ hR2 hU2
 go_wp2_with ((with_reducible show wpList _ _ _ _ _ _); refine wpList_copy_splice rfl (.tmp 31) (.tmp 32) 98 98 rfl 3 Tryz.underlying98 hsz _ _ (m+1) (m+1) 1 c0 rfl rfl w.heap.size 0 Z 3 hB2 [.int .i64 v] hmin hsrc (by simp; omega) (by simp [Value.oneCell']) w.heap.size w hb2 (Nat.le_refl _) ?_; intro w3 hg3 hb3)
 have hB3:Blk w3 w.heap.size (List.replicate 1 (.int .i64 v)++List.replicate m (.int .i64 0)) 3:=by
  have h:=hg3.out
  rw [hZ'.out,show List.replicate (m+1) (Value.int .i64 0)=List.replicate 0 (.int .i64 v)++List.replicate (m+1) (.int .i64 0) by simp] at h
  have e:=XE 0 1 (m+1) (Value.int .i64 v) (Value.int .i64 0) (by omega)
  rw [show [Value.int .i64 v]=List.replicate 1 (Value.int .i64 v) by rfl,e] at h
  exact h
 clear hg3 hM hsrc hc2 hmin hb2 hB2
 go_loopg [8] m (fun g s8 wr => ∃ k,k≤m∧g=m-k∧s8 = .int .i64 ((k:Int)+1)∧Blk wr w.heap.size (List.replicate (k+1) (.int .i64 v)++List.replicate (m-k) (.int .i64 0)) 3∧Below w.heap.size w wr)
 case atStart=>exact ⟨0,by omega,rfl,rfl,hB3,hb3⟩
 case round =>
  obtain ⟨k,hkm,rfl,rfl,hB,hb⟩:=hrel
  by_cases hr:m=k
  · have hcz : ¬ ((k:Int)+1<(m:Int)+1):=by omega
    subst hr
    go_wp2
    go_returns
    have hlt:=hB.lt
    exact ⟨rfl,(by simpa using hB:Blk wr w.heap.size (List.replicate (m+1) (.int .i64 v)) 3).row _ (by simp) (by unfold maxLen; omega),.of_below hb,hlt⟩
  · have hcz:(k:Int)+1<(m:Int)+1:=by omega
    have hk0:0≤(k:Int)+1:=by omega
    obtain ⟨cur,hcur⟩ : ∃ cur,cur=List.replicate (k+1) (Value.int .i64 v)++List.replicate (m-k) (Value.int .i64 0):=⟨_,rfl⟩
    obtain ⟨cs,hcs⟩ : ∃ cs,cs=List.replicate (min (k+1) (m-k)) (Value.int .i64 v):=⟨_,rfl⟩
    have hl1:cs.length=Nat.min (k+1) (m-k):=by rw [hcs]; simp
    have hfit:k+1+cs.length≤cur.length:=by rw [hcs,hcur]; simp; omega
    have hone : ∀ u∈cs,u.oneCell'=true:=by intro u hu; rw [hcs] at hu; rw [(List.mem_replicate.1 hu).2]; rfl
    have hsrc : ∀ j u,cs[j]? =some u→wr.drew.cell? ((⟨w.heap.size,0,none⟩:Addr).add j)=some u:=fun j u hj=>by
     rw [hcs] at hj
     have hj':j<min (k+1) (m-k):=by have:=(List.getElem?_eq_some_iff.1 hj).1; simpa using this
     have hu:u = .int .i64 v:=by obtain ⟨h1,h2⟩:=List.getElem?_eq_some_iff.1 hj; rw [← h2]; simp
     have h:=hB.cell j (v := .int .i64 v) (by rw [List.getElem?_append_left (by simp; omega),List.getElem?_replicate]; simp; omega)
     rw [hu]
     cases j with
     | zero=>exact h
     | succ j=>simpa [Addr.add] using h
    rw [← hcur] at hB
    have hBd:wr.drew.heap[w.heap.size]? =some (Obj.cells cur.toArray 3 (0,0)):=hB
    have hbd:=hb.drew
    have HC:=Lib.hid hcur
    have HS:=Lib.hid hcs
    have HL:=Lib.hid hl1
    have HSRC:=Lib.hid hsrc
    have HONE:=Lib.hid hone
    have HB:=Lib.hid hBd
    clear hcur hcs hl1 hsrc hone hB hBd
    have hl2:cs.length≤1000:=by have:=HL.out; simp only [Nat.min_def] at this; split at this<;>omega
    go_wp2
    go_region_law ((refine step_copy_splice (by rfl) (.tmp 41) (.tmp 44) 98 98 (by rfl) 3 Tryz.underlying98 hsz (some ⟨w.heap.size,k+1,none⟩) (some ⟨w.heap.size,0,none⟩) (m-k) (m-k) (k+1) (m+1) (by simp [Act.put,Act.eval]) (by simp [Act.put,Act.eval]) w.heap.size (k+1) cur 3 HB.out cs HL.out (fun _=>⟨rfl,_,rfl,HSRC.out⟩) hfit HONE.out w.heap.size w hbd (Nat.le_refl _) ?_; intro w4 hg4 hb4))
    all_goals go_wp2
    all_goals (
     have hj:=HL.out
     have hj1:cs.length=min (k+1) (m-k):=hj
     have hcs:=HS.out
     rw [← hj1] at hcs
     have h4:=hg4.out
     rw [HC.out,hcs,XE (k+1) cs.length (m-k) (Value.int .i64 v) (Value.int .i64 0) (by omega),show k+1+cs.length=k+cs.length+1 by omega,show m-k-cs.length=m-(k+cs.length) by omega] at h4)
    all_goals go_roundg (m-(k+cs.length))
    all_goals first
     | omega
     | (refine ⟨k+cs.length,by omega,rfl,by rw [show IntKind.i64.wrap ((k:Int)+1+(cs.length:Int))=(k:Int)+1+(cs.length:Int) from IntWalk.i64_in _ (by omega)]; congr 1; omega,h4,hb4⟩)
end Go.Proofs.YtfkcdnaghndgfaaGreatDoor
namespace Go.Proofs.YtfkcdnaghndgfaaGreatDoor
open Go.RowKit
def xP:List (Nat×Nat):=[(144,8),(112,9),(24,7),(8,8)]
def yU (i:Nat):List Nat:=(xP.take i).flatMap fun r=>List.replicate r.1 r.2
def zfV:List Value:=[.int .i64 144,.int .i64 8,.int .i64 112,.int .i64 9,.int .i64 24,.int .i64 7,.int .i64 8,.int .i64 8]
theorem zgc (i:Nat):(yU i).length≤288:=by
 unfold yU xP
 rcases i with _ | _ | _ | _ | i<;>simp only [List.take_zero,List.take_succ_cons,List.take_nil,List.flatMap_cons,List.flatMap_nil,List.length_append,List.length_replicate,List.length_nil,Nat.zero_add]<;>omega
theorem zdI (i:Nat) (h:i<4):yU (i+1)=yU i++List.replicate (xP.getD i (0,0)).1 (xP.getD i (0,0)).2:=by
 have ht:xP.take (i+1)=xP.take i++[xP.getD i (0,0)]:=by
  rw [List.take_add_one,List.getD_eq_getElem?_getD,List.getElem?_eq_getElem (show i<xP.length from h)]
  rfl
 unfold yU
 rw [ht,List.flatMap_append]
 simp only [List.flatMap_cons,List.flatMap_nil,List.append_nil]
def ziF (w wr:World) (b:Nat) (v:Value) (i:Nat):Prop :=
 Row wr 3 1 v (yU i).length (zg (yU i))∧Upd [] w wr∧Blk wr b zfV 203∧v.ownBlock≠some b ∧ ∀ k,v.ownBlock=some k→w.heap.size≤k
set_option maxRecDepth 100000 in
set_option maxHeartbeats 3200000 in
theorem Zb (w:World):Calls Tryz.prog 122 #[] w fun e w' => ∃ g1 c1 g2,e = .returned (.tuple #[.slice (some ⟨g1,0,none⟩) 288 c1,.slice (some ⟨g2,0,none⟩) 32 32]) ∧
 Row w' 3 1 (.slice (some ⟨g1,0,none⟩) 288 c1) 288 (zg (yU 4))∧Row w' 3 1 (.slice (some ⟨g2,0,none⟩) 32 32) 32 (zg (List.replicate 32 5))∧Upd [] w w'∧w.heap.size≤g1∧w.heap.size≤g2:=by
 obtain ⟨i0,hi0,hz0,hz1,hz2⟩:=info_parts qJ
 go_enter Tryz.func122,Tryz.ntmps122
 go_wp2
 go_loopg [0,10] 4 (fun g s0 s10 wr => ∃ i,i≤4∧g=4-i∧s10 = .int .i64 (i:Nat)∧ziF w wr w.heap.size s0 i)
 case atStart=>exact ⟨0,by omega,rfl,rfl,Row.nil _ _ _,(Upd.refl _ _).alloc _,Blk.new _ _ _,by simp [Value.ownBlock],by simp [Value.ownBlock]⟩
 case round =>
  obtain ⟨i,hi,rfl,rfl,hRow,hU,hB,hne,hnew⟩:=hrel
  by_cases hc:i<4
  · have hcz:(i:Int)<4:=by omega
    obtain ⟨r,hr⟩ : ∃ r,r=xP.getD i (0,0):=⟨_,rfl⟩
    have hst:=zdI i hc
    rw [← hr] at hst
    have d0:wr.cell? ⟨w.heap.size,i*2,none⟩=some (.int .i64 (r.1:Nat)):=hB.cell (i*2) (by rw [hr]; rcases i with _ | _ | _ | _ | i<;>first | rfl | omega)
    have d1:wr.cell? ⟨w.heap.size,i*2+1,none⟩=some (.int .i64 (r.2:Nat)):=hB.cell (i*2+1) (by rw [hr]; rcases i with _ | _ | _ | _ | i<;>first | rfl | omega)
    have hr1:1≤r.1∧r.1≤144∧r.2≤15:=by rw [hr]; rcases i with _ | _ | _ | _ | i<;>first | decide | omega
    have hlen:=zgc i
    obtain ⟨n,x⟩:=r
    simp only at d0 d1 hr1 hst
    generalize yU i=L at *
    clear hr
    go_wp2_with fail
    have hU2:Upd [] wr ((wr.alloc (Obj.cells #[.int .i64 (n:Nat),.int .i64 (x:Nat)] 203)).alloc (Obj.cells #[.int .i64 (x:Nat)] 3)):=((Upd.refl [] wr).alloc _).alloc _
    have hcc:((wr.alloc (Obj.cells #[.int .i64 (n:Nat),.int .i64 (x:Nat)] 203)).alloc (Obj.cells #[.int .i64 (x:Nat)] 3)).cell? ⟨wr.heap.size+1,0,none⟩=some (.int .i64 (x:Nat)):=by
     have h:=(Blk.new (wr.alloc (Obj.cells #[.int .i64 (n:Nat),.int .i64 (x:Nat)] 203)) [.int .i64 (x:Nat)] 3).cell 0 rfl
     rw [World.size_alloc] at h
     exact h
    generalize ((wr.alloc (Obj.cells #[.int .i64 (n:Nat),.int .i64 (x:Nat)] 203)).alloc (Obj.cells #[.int .i64 (x:Nat)] 3))=w2 at *
    refine (Yj (wr.heap.size+1) 0 1 n x w2 hcc hr1.1 (by omega)).mono ?_
    rintro e w5 ⟨rfl,hR5,hU5,hs5⟩
    have hRow5:=(hRow.upd hU2 (by simp)).upd hU5 (by simp)
    have hB5:=(hB.upd hU2 (by simp)).upd hU5 (by simp)
    have hUw5:=(hU.then hU2).then hU5
    have hnl:(List.replicate n (Value.int .i64 (x:Nat))).length=n*1:=by simp
    have hnews : ∀ j u,(List.replicate n (Value.int .i64 (x:Nat)))[j]? =some u→w5.cell? ((⟨w2.heap.size,0,none⟩:Addr).add j)=some u:=fun j u hj=>by
     have h:=hR5.cell j hj
     cases j with
     | zero=>exact h
     | succ j=>simpa [Addr.add] using h
    have hone : ∀ u∈List.replicate n (Value.int .i64 (x:Nat)),u.oneCell'=true:=by intro u hu; rw [(List.mem_replicate.1 hu).2]; rfl
    clear hRow hB hU hU2 hcc hR5 hs5 d0 d1
    obtain ⟨news,hnw⟩ : ∃ l,l=List.replicate n (Value.int .i64 (x:Nat)):=⟨_,rfl⟩
    rw [← hnw] at hnl hnews hone
    have HNW:=Lib.hid hnw
    have HNEWS:=Lib.hid hnews
    have HONE:=Lib.hid hone
    clear hnw hnews hone
    go_wp2_with (at_builtin; refine zz _ rfl _ _ 98 rfl 3 i0 _ 1 8 Tryz.underlying98 hi0 hz0 hz1 hz2 rfl (by omega) _ L.length _ rfl hRow5 ⟨w2.heap.size,0,none⟩ n n news rfl hnl HNEWS.out HONE.out (by unfold maxLen; omega) (by omega) ?_)
    intro v9 w9 hR9 hU9 hT9
    go_wp2
    go_roundg (4-(i+1))
    case measure=>omega
    case rel =>
     refine ⟨i+1,by omega,rfl,rfl,?_,?_,?_,?_,?_⟩
     · rw [hst,List.length_append,List.length_replicate]
       rw [HNW.out] at hR9
       simpa [zg,List.map_append] using hR9
     · exact hUw5.trans hU9 (fun k hk => .inr (hnew k (by simpa using hk)))
     · exact hB5.upd hU9 (by simpa [eq_comm] using hne)
     · exact hT9.ne hB5.lt hne
     · intro k hk
       rcases hT9 with h | ⟨g,h1,h2⟩
       · rw [h] at hk; exact hnew k hk
       · rw [h1] at hk; cases hk; exact Nat.le_trans hUw5.size h2
  · have hcz : ¬ (i:Int)<4:=by omega
    have hi4:i=4:=by omega
    subst hi4
    have hL4:(yU 4).length=288:=by
     unfold yU xP
     simp only [List.take_succ_cons,List.take_nil,List.flatMap_cons,List.flatMap_nil,List.length_append,List.length_replicate,List.length_nil]
    rw [hL4] at hRow
    generalize hL:yU 4=L4 at *
    have HL:=Lib.hid hL
    clear hL
    obtain ⟨g1,c1,rfl,hg1,hg2⟩:=hRow.form' (by omega)
    have hgw:w.heap.size≤g1:=hnew g1 rfl
    go_wp2_with fail
    have hU2:Upd [] wr (wr.alloc (Obj.cells #[.int .i64 5] 3)):=(Upd.refl [] wr).alloc _
    have hcc:=(Blk.new wr [.int .i64 5] 3).cell 0 rfl
    refine (Yj wr.heap.size 0 1 32 5 _ hcc (by omega) (by omega)).mono ?_
    rintro e w5 ⟨rfl,hR5,hU5,hs5⟩
    have hsz:=hU2.size
    generalize wr.alloc (Obj.cells #[.int .i64 5] 3)=w2 at *
    have hRow5:=(hRow.upd hU2 (by simp)).upd hU5 (by simp)
    have hUw5:=(hU.then hU2).then hU5
    go_wp2
    go_returns
    exact ⟨g1,c1,w2.heap.size,rfl,by rw [HL.out]; exact hRow5,hR5,hUw5,hgw,Nat.le_trans hU.size hsz⟩
end Go.Proofs.YtfkcdnaghndgfaaGreatDoor
namespace Go.Proofs.YtfkcdnaghndgfaaGreatDoor
open Go.RowKit
def OwnX (w0 w:World) (e:TypeId) (v:Value) (xs:List Value):Prop:=Row w e 1 v xs.length xs ∧ ∀ k,v.ownBlock=some k→w0.heap.size≤k
theorem OwnX.nil (w0 w:World) (e:TypeId):OwnX w0 w e (.slice none 0 0) []:=⟨Row.nil _ _ _,fun k h=>by cases h⟩
theorem OwnX.upd {w0 w w':World} {e:TypeId} {v:Value} {xs:List Value} (h:OwnX w0 w e v xs) (hu:Upd [] w w'):OwnX w0 w' e v xs:=⟨h.1.upd hu (by simp),h.2⟩
theorem OwnX.app {w0 w wm w':World} {e:TypeId} {v v':Value} {xs ys:List Value} (h:OwnX w0 w e v xs) (hu:Upd [] w0 w) (hm:Upd [] w wm) (hR:Row w' e 1 v' (xs.length+ys.length) (xs++ys)) (hU:Upd v.ownBlock.toList wm w') (hT:Later wm v v') :
 OwnX w0 w' e v' (xs++ys)∧Upd [] w0 w':=by
 refine ⟨⟨by rw [List.length_append]; exact hR,fun k hk=>?_⟩,(hu.then hm).trans hU (fun k hk => .inr (h.2 k (by simpa using hk)))⟩
 rcases hT with h1 | ⟨g,h1,h2⟩
 · exact h.2 k (by rw [← h1]; exact hk)
 · rw [h1] at hk; simp at hk h2; have:=(hu.then hm).size; omega
theorem OwnX.form {w0 w:World} {e:TypeId} {v:Value} {xs:List Value} (h:OwnX w0 w e v xs) : ∃ a c,v = .slice a xs.length c:=h.1.form
theorem OwnX.base {w0 w1 w:World} {e:TypeId} {v:Value} {xs:List Value} (h:OwnX w1 w e v xs) (hs:w0.heap.size≤w1.heap.size):OwnX w0 w e v xs:=⟨h.1,fun k hk=>Nat.le_trans hs (h.2 k hk)⟩
end Go.Proofs.YtfkcdnaghndgfaaGreatDoor
namespace Go.Proofs.YtfkcdnaghndgfaaGreatDoor
open Go.RowKit
def ints (l:List Nat):List Int:=l.map fun x:Nat=>(x:Int)
theorem IntsIn.row {w:World} {t:TypeId} {a:Option Addr} {k c:Nat} {l:List Nat} (h:Row w t 1 (.slice a k c) k (zg l)) (hb : ∀ x∈l,x≤9223372036854775807):IntsIn w a k (ints l):=by
 have hl:l.length=k:=by have:=h.len; rw [zn] at this; omega
 refine ⟨by simp [ints,hl],fun i hi=>?_⟩
 have hi2:i<l.length:=by simpa [ints] using hi
 obtain ⟨g,cc,e,_,_⟩:=h.form' (by omega)
 cases e
 have hx:=hb _ (List.getElem_mem hi2)
 refine ⟨g,0,rfl,?_,by simp [ints]<;>omega,by simp [ints]<;>omega⟩
 rw [Nat.zero_add,h.cell i (u := .int .i64 (l[i]:Nat)) (by simp [zg,hi2])]
 simp [ints]
theorem OwnX.ints {w0 w:World} {t:TypeId} {v:Value} {l:List Nat} (h:OwnX w0 w t v (zg l)) (hb : ∀ x∈l,x≤9223372036854775807) : ∃ a c,v = .slice a l.length c∧IntsIn w a l.length (ints l):=by
 obtain ⟨a,c,rfl⟩:=h.form
 have h1:=h.1
 rw [zn] at h1 ⊢
 exact ⟨a,c,rfl,IntsIn.row h1 hb⟩
theorem IntsIn.blk {w:World} {b n:Nat} {t:TypeId} {l:List Nat} (h:Blk w b (zg l) t) (hn:l.length=n) (hb : ∀ x∈l,x≤9223372036854775807):IntsIn w (some ⟨b,0,none⟩) n (ints l):=by
 refine ⟨by simp [ints,hn],fun i hi=>?_⟩
 have hi2:i<l.length:=by simpa [ints] using hi
 have hx:=hb _ (List.getElem_mem hi2)
 refine ⟨b,0,rfl,?_,by simp [ints]<;>omega,by simp [ints]<;>omega⟩
 rw [Nat.zero_add,h.cell i (v := .int .i64 (l[i]:Nat)) (by simp [zg,hi2])]
 simp [ints]
end Go.Proofs.YtfkcdnaghndgfaaGreatDoor
namespace Go.Proofs.YtfkcdnaghndgfaaGreatDoor
open Go.RowKit
theorem Wh (n:List Nat):(xL n=0∧jX n=0)∨(0<xL n∧xL n<32768∧jX n=2)∨(xL n=32768∧jX n=1)∨(32768<xL n∧jX n=3):=by
 unfold jX
 by_cases h1:xL n=0
 · simp [h1]
 · by_cases h2:xL n<32768
   · simp [h1,h2]; omega
   · by_cases h3:xL n=32768
     · simp [h3]
     · simp [h1,h2,h3]; omega
end Go.Proofs.YtfkcdnaghndgfaaGreatDoor
namespace Go.Proofs.YtfkcdnaghndgfaaGreatDoor
open Go.RowKit
def JD (l:List Int):Nat:=l.countP fun k=>decide (0<k)
def YG (l:List Int):Nat:=l.countP fun k=>decide (k=1)
def qe (l:List Int):Bool:=decide (zp l=1)||(decide (JD l=1)&&decide (YG l=1))
theorem zbL {l:List Int} {i:Nat} (h:i<l.length):JD (l.take (i+1))=JD (l.take i)+if 0<l[i] then 1 else 0:=by
 unfold JD; rw [take_snoc' l i h,List.countP_append]; simp [List.countP_cons]
theorem zek {l:List Int} {i:Nat} (h:i<l.length):YG (l.take (i+1))=YG (l.take i)+if l[i]=1 then 1 else 0:=by
 unfold YG; rw [take_snoc' l i h,List.countP_append]; simp [List.countP_cons]
theorem zgW (l:List Int):JD l≤l.length:=List.countP_le_length
theorem zg6 (l:List Int):YG l≤l.length:=List.countP_le_length
end Go.Proofs.YtfkcdnaghndgfaaGreatDoor
namespace Go.Proofs.YtfkcdnaghndgfaaGreatDoor
open Go.RowKit
theorem Zh:(Tryz.prog.info? 5).map (fun i=>(i.zero,i.size,i.bytes))=some (some (.int .u8 0),1,1):=by kernel_rfl
structure WrAt (w:World) (b:Nat) (v:Value) (L:List Bool) (m:Nat):Prop where
 blk:Blk w b [v,.int .u64 (rest L m:Nat),.int .i64 (L.length-8*m:Nat)] 118
 row:Row w 5 1 v m (u8s (xB L m))
 le:8*m≤L.length
 far:v.ownBlock≠some b
def zZ (b:Nat) (v:Value):List Nat:=b::v.ownBlock.toList
theorem WrAt.upd {w w':World} {b:Nat} {v:Value} {L:List Bool} {m:Nat} {fp:List Nat} (h:WrAt w b v L m) (hu:Upd fp w w') (hb:b∉fp) (hv : ∀ k,v.ownBlock=some k→k∉fp):WrAt w' b v L m :=
 ⟨h.blk.upd hu hb,h.row.upd hu hv,h.le,h.far⟩
def Yo (w:World) (b:Nat) (v:Value) (L:List Bool) (e:Ending) (w':World):Prop :=
 e = .returned (.tuple #[]) ∧ ∃ v',WrAt w' b v' L (L.length/8)∧Upd (zZ b v) w w'∧Later w v v'
def zcO (w:World) (b:Nat) (v:Value) (L:List Bool) (g:Nat) (wr:World):Prop :=
 ∃ m v',WrAt wr b v' L m∧g=L.length-8*m∧Upd (zZ b v) w wr∧Later w v v'
theorem zbm (p X K n:Nat) (hp:p<2^n) (hX:X<4294967296) (hK:K≤32) (hn:n≤7) :
 bits BinOp.or IntKind.u64 (p:Int) (IntKind.u64.wrap (bits BinOp.and IntKind.u64 (IntKind.u64.wrap (X:Int)) (IntKind.u64.wrap (IntKind.u64.wrap (2^K)-1))*2^n))=((p+2^n*(X%2^K):Nat):Int):=by
 have hn2:2^n≤2^7:=Nat.pow_le_pow_right (by omega) hn
 have hK2:2^K≤2^32:=Nat.pow_le_pow_right (by omega) hK
 have hK1:1≤2^K:=Nat.one_le_two_pow
 have h1:IntKind.u64.wrap (X:Int)=(X:Int):=IntWalk.u64_in _ (by omega)
 have e2:(2:Int)^K=((2^K:Nat):Int):=by simp
 have e3:(2:Int)^n=((2^n:Nat):Int):=by simp
 rw [h1,e2,e3]
 have h2:IntKind.u64.wrap ((2^K:Nat):Int)=((2^K:Nat):Int):=IntWalk.u64_in _ (by omega)
 have h3:IntKind.u64.wrap (((2^K:Nat):Int)-1)=((2^K-1:Nat):Int):=by rw [IntWalk.u64_in _ (by omega)]; omega
 have hs:X%2^K<2^K:=Nat.mod_lt _ (by omega)
 have hm:(X &&& (2^K-1))=X%2^K:=Nat.and_two_pow_sub_one_eq_mod X K
 have hb:X%2^K*2^n≤2^32*2^7:=Nat.mul_le_mul (by omega) hn2
 rw [h2,h3,u64_and_nat _ _ (by omega) (by omega),hm,← Int.natCast_mul,IntWalk.u64_in _ (by omega),u64_or_nat _ _ (by omega) (by omega),← hm,zc9 p X K n hp,hm]
theorem zbS {w0 w wa w1:World} {b g cap m N:Nat} {v v' x:Value} {L':List Bool} (hW':WrAt w b v' L' m) (hU:Upd (zZ b v) w0 w) (hLt:Later w0 v v') (hc:8*(m+1)≤L'.length)
 (hwa:Upd [] w wa) (hgrow:wa.grownBy w1 v'.ownBlock) (hat:v'.ownBlock=some g∨g=N) (hN:w.heap.size≤N)
 (hown1:w1.ownsRow 0 5 1 (.slice (some ⟨g,0,none⟩) (m+1) cap) (m+1) (u8s (xB L' m)++[x])) (hx:x = .int .u8 (jC L' m:Nat)) :
 zcO w0 b v L' (L'.length-8*(m+1)) (((w1.setCell ⟨b,0,none⟩ (.slice (some ⟨g,0,none⟩) (m+1) cap)).setCell ⟨b,1,none⟩ (.int .u64 (((rest L' m:Nat):Int)/256))).setCell ⟨b,2,none⟩ (.int .i64 (((L'.length-8*m:Nat):Int)-8))):=by
 have hgb:(Value.slice (some ⟨g,0,none⟩) (m+1) cap).ownBlock≠some b:=by
  have hb:=hW'.blk.lt
  have hf:=hW'.far
  rcases hat with h | h
  · rw [h] at hf; exact hf
  · simp only [Value.ownBlock,ne_eq,Option.some.injEq]; omega
 have hBw:Blk w1 b _ _:=(hW'.blk.upd hwa (by simp)).grown hgrow hW'.far
 refine ⟨m+1,.slice (some ⟨g,0,none⟩) (m+1) cap,⟨?_,?_,hc,hgb⟩,rfl,?_,?_⟩
 · have h:=((hBw.set 0 (.slice (some ⟨g,0,none⟩) (m+1) cap)).set 1 (.int .u64 (((rest L' m:Nat):Int)/256))).set 2 (.int .i64 (((L'.length-8*m:Nat):Int)-8))
   have e1:(((rest L' m:Nat):Int)/256)=((rest L' (m+1):Nat):Int):=by rw [zei _ _ hc]; simp
   have e2:(((L'.length-8*m:Nat):Int)-8)=((L'.length-8*(m+1):Nat):Int):=by omega
   rw [← e1,← e2]
   exact h
 · rw [Ji,zgy,← hx]
   exact (((Row.of_owns hown1).setFar _ hgb).setFar _ hgb).setFar _ hgb
 · have hU1:Upd (zZ b v) w0 w1:=(hU.then (hwa.mono (by simp))).grown hgrow (fun k hk=>by
    rcases hLt with h | ⟨j,h,hj⟩
    · exact .inl (by simp [zZ,← h,hk])
    · rw [h] at hk; cases hk; exact .inr hj)
   exact ((hU1.setCell (.inl (by simp [zZ])) _).setCell (.inl (by simp [zZ])) _).setCell (.inl (by simp [zZ])) _
 · rcases hat with h | h
   · rcases hLt with h' | ⟨j,h',hj⟩
     · exact .inl (by rw [← h',h]; rfl)
     · exact .inr ⟨j,by rw [← h',h]; rfl,hj⟩
   · exact .inr ⟨g,rfl,by have:=hU.size; omega⟩
set_option maxRecDepth 100000 in
set_option maxHeartbeats 3200000 in
theorem yp (b X:Nat) (x k:Int) (K:Nat) (w:World) (v:Value) (L:List Bool) (hx:x=(X:Nat)) (hX:X<4294967296) (hW:WrAt w b v L (L.length/8)) (hL:L.length≤1099511627776)
 (hK32:K≤32) (hK:Hid ((K:Int)=max 0 (min k 32))) :
 Calls Tryz.prog 120 #[.pointer (some ⟨b,0,none⟩),.int .u32 x,.int .i64 k] w (Yo w b v (L++low K X)):=by
 subst hx
 obtain ⟨i0,hi,hz0,hz1,hz2⟩:=info_parts Zh
 have hA:=hW.blk.all
 have fA:=hW.blk.frz
 have hle:=hW.le
 have hn7:L.length-8*(L.length/8)≤7:=by omega
 have hnn:(0:Int)≤((L.length-8*(L.length/8):Nat):Int):=by omega
 have hK0:(0:Int)≤(K:Int):=by omega
 have hst:=Lib.hid (zbm (rest L (L.length/8)) X K (L.length-8*(L.length/8)) (zc8 L _) hX hK32 hn7)
 have hre:rest L (L.length/8)+2^(L.length-8*(L.length/8))*(X%2^K)=rest (L++low K X) (L.length/8):=by rw [zap _ _ _ hle,Qg]
 rw [hre] at hst
 clear hre
 go_enter Tryz.func120,Tryz.ntmps120
 go_upto_region 1 with fail
 go_cut [2] (fun s2 wx=>s2 = .int .i64 (K:Nat)∧wx=w)
 case first =>
  go_wp2
  all_goals go_meet
  all_goals (refine ⟨?_,rfl⟩; first | (rw [hK.out]; done) | (rw [hK.out]; congr 1; omega))
 case rest =>
  obtain ⟨rfl,rfl⟩:=hcut
  go_upto_region 2 with fail
  go_still_tail 18,(by kernel_rfl)
  rw [hst.out]
  go_wp2
  have hLK:Hid ((L++low K X).length=L.length+K):=Lib.hid (by rw [List.length_append,ze])
  have hlo:Hid (xB (L++low K X) (L.length/8)=xB L (L.length/8)):=Lib.hid (vT _ _ _ hle)
  have hub':(L++low K X).length≤2000000000000:=by rw [List.length_append,ze]; omega
  generalize L++low K X=L' at *
  go_loopg [] (L'.length-8*(L.length/8)) (fun g wr=>zcO wc b v L' g wr)
  case atStart =>
   refine ⟨L.length/8,v,⟨?_,?_,by rw [hLK.out]; omega,hW.far⟩,rfl,?_,.refl _ _⟩
   · have h:=(hW.blk.set 1 (.int .u64 (rest L' (L.length/8):Nat))).set 2 (.int .i64 (((L.length-8*(L.length/8):Nat):Int)+(K:Int)))
     have e:(((L.length-8*(L.length/8):Nat):Int)+(K:Int))=((L'.length-8*(L.length/8):Nat):Int):=by
      rw [hLK.out]; omega
     rw [← e]
     exact h
   · rw [hlo.out]
     exact (((hW.row).setFar _ hW.far).setFar _ hW.far).drew
   · exact (((Upd.refl _ _).setCell (.inl (by simp [zZ])) _).setCell (.inl (by simp [zZ])) _).drew
  case round =>
   obtain ⟨m,v',hW',rfl,hU,hLt⟩:=hrel
   clear hA fA hst hnn hn7 hlo hLK
   have hA:=hW'.blk.all
   have fA:=hW'.blk.frz
   by_cases hc:8≤L'.length-8*m
   · have hcz:(8:Int)≤((L'.length-8*m:Nat):Int):=by omega
     have hub:((L'.length-8*m:Nat):Int)≤2000000000000:=by omega
     have hbw:=hW'.blk.lt
     have hfar:=hW'.far
     have hrow:=hW'.row
     have hmm:m≤2000000000000:=by omega
     go_wp2_with fail
     go_region_law ((refine step_append_lies _ (by rfl) _ _ _ (by rfl) 0 5 i0 _ 1 1 Tryz.underlying75 hi hz0 hz1 hz2 rfl (by omega) v' m _ (by rfl) (Row.alloc (Row.drew hrow) _) ⟨wr.heap.size,0,none⟩ 1 1 [_] (by rfl) (by rfl) (World.news_of_block (cs := #[_]) (t:=5) (fr:=(0,0)) (heap_alloc_new _ _)) (by simp [Value.oneCell']) (by omega) (by unfold maxLen; omega) (by omega) (by simp) (wr.heap.size+1) (by simp) ?_; intro g cap w1 hown1 hgrow hat hlt; have hBw:=(hW'.blk.drew.alloc _).grown hgrow hfar; have kA:=hBw.all; have e0:=hBw.frz 0; have e1:=hBw.frz 1; have e2:=hBw.frz 2))
     all_goals go_wp2
     all_goals go_roundg (L'.length-8*(m+1))
     all_goals first | omega | (refine zbS hW' hU hLt (by omega) (by first | exact ((Upd.refl _ _).drew.alloc _) | exact ((Upd.refl _ _).alloc _).drew) hgrow hat (by omega) hown1 ?_; rw [zcj _ _ (by omega),IntKind.wrap_u8]; simp)
   · have hcz:((L'.length-8*m:Nat):Int)<8:=by omega
     go_wp2
     go_end0
     have hm:m=L'.length/8:=by have:=hW'.le; omega
     exact ⟨rfl,v',hm▸hW',hU,hLt⟩
end Go.Proofs.YtfkcdnaghndgfaaGreatDoor
