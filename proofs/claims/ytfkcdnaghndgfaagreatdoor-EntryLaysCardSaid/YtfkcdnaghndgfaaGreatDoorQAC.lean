/- slices.Repeat of one integer; math/bits.Mul by one: walks. -/
import Derived.Laws.CopyOwn
import Derived.Test.YtfkcdnaghndgfaaGreatDoorQAB
import Derived.Test.YtfkcdnaghndgfaaGreatDoorQAA
set_option linter.unusedVariables false
set_option linter.unusedSimpArgs false
set_option linter.unusedSectionVars false
namespace Go.Proofs.YtfkcdnaghndgfaaGreatDoor
open Go.RowKit
theorem zdO (y:Nat) (w:World) (hy:y<4294967296) :
 Calls Tryz.prog 212 #[.int .u64 1,.int .u64 (y:Nat)] w fun e w'=>e = .returned (.tuple #[.int .u64 0,.int .u64 (y:Nat)])∧w=w':=by
 have hA:bits .and .u64 1 4294967295=1:=by rfl
 have hB:bits .and .u64 (y:Int) 4294967295=(y:Int):=by
  have h1:(BitVec.ofInt 64 (y:Int)).toNat=y:=by
   rw [BitVec.ofInt_natCast,BitVec.toNat_ofNat]; exact Nat.mod_eq_of_lt (by omega)
  have h2:(BitVec.ofInt 64 4294967295).toNat=2^32-1:=by rfl
  show IntKind.u64.wrap ((BitVec.ofInt 64 (y:Int) &&& BitVec.ofInt 64 4294967295).toNat:Int)=_
  rw [BitVec.toNat_and,h1,h2,Nat.and_two_pow_sub_one_eq_mod,IntKind.wrap_u64]
  omega
 have hd:(y:Int)/4294967296=0:=by omega
 have hw:IntKind.u64.wrap (y:Int)=(y:Int):=by rw [IntKind.wrap_u64]; omega
 have hz:IntKind.u64.wrap 0=0:=by rfl
 have hm:(1:Int)*(y:Int)=(y:Int):=by omega
 have hB0:bits .and .u64 0 4294967295=0:=by rfl
 go_enter Tryz.func212,Tryz.ntmps212
 go_wp2
 go_returns
 exact ⟨rfl,rfl⟩
theorem mul_one (y:Nat) (w:World) (hy:y<4294967296) :
 Calls Tryz.prog 184 #[.int .u64 1,.int .u64 (y:Nat)] w fun e w'=>e = .returned (.tuple #[.int .u64 0,.int .u64 (y:Nat)])∧w=w':=by
 go_enter Tryz.func184,Tryz.ntmps184
 go_wp2_with fail
 refine (zdO y w hy).mono ?_
 rintro e w' ⟨rfl,rfl⟩
 go_wp2
 go_returns
 exact ⟨rfl,rfl⟩
theorem ZU {α:Type} (n k m:Nat) (v z:α) (h:k≤m):splice (List.replicate n v++List.replicate m z) n (List.replicate k v)=List.replicate (n+k) v++List.replicate (m-k) z:=by
 unfold splice
 rw [List.length_replicate,List.take_left' (by simp),← List.append_assoc,List.replicate_append_replicate,List.drop_append,List.length_replicate]
 simp
theorem Row.blk {w:World} {e:TypeId} {g n:Nat} {xs:List Value} (h:Row w e 1 (.slice (some ⟨g,0,none⟩) n n) n xs):Blk w g xs e:=by
 rcases h.2 with h2 | ⟨g',cap,cur,hv,hb,hg,hle,hmx,hcs,hr⟩
 · cases h2.1
 · cases hv
   unfold Blk
   rw [hg,← hr,← hcs,List.take_of_length_le (by simp),Array.toArray_toList]
theorem Blk.row {w:World} {e:TypeId} {g:Nat} {xs:List Value} (h:Blk w g xs e) (n:Nat) (hn:xs.length=n) (hm:n≤maxLen):Row w e 1 (.slice (some ⟨g,0,none⟩) n n) n xs :=
 ⟨by omega,.inr ⟨g,n,xs.toArray,rfl,Nat.zero_le _,h,Nat.le_refl _,hm,by simp [hn],by rw [Nat.mul_one,List.take_of_length_le (by simp [hn])]⟩⟩
set_option maxRecDepth 100000 in
set_option maxHeartbeats 1600000 in
theorem Yh (g0 off c0 n:Nat) (v:Int) (w:World) (hc:w.cell? ⟨g0,off,none⟩=some (.int .i64 v)) (hn1:1≤n) (hn:n≤1000) :
 Calls Tryz.prog 151 #[.slice (some ⟨g0,off,none⟩) 1 c0,.int .i64 (n:Nat)] w fun e w'=>e = .returned (.slice (some ⟨w.heap.size,0,none⟩) n n) ∧
  Row w' 3 1 (.slice (some ⟨w.heap.size,0,none⟩) n n) n (List.replicate n (.int .i64 v))∧Upd [] w w'∧w.heap.size<w'.heap.size:=by
 obtain ⟨i0,hi0,hz0,hz1,hz2⟩:=info_parts jk
 have hsz:(Tryz.prog.info? 3).map (·.size)=some 1:=by rw [hi0]; simp [hz1]
 have hM:=Lib.hid (mul_one n w (by omega))
 have hg0:g0<w.heap.size:=World.block_lt_of_cell? w _ hc
 have hnn:decide ((n:Int)<0)=false:=decide_eq_false (by omega)
 have hnm:decide (9223372036854775807<(n:Int))=false:=decide_eq_false (by omega)
 have hw1:IntKind.u64.wrap (n:Int)=(n:Int):=by rw [IntKind.wrap_u64]; omega
 have hw2:IntKind.i64.wrap (n:Int)=(n:Int):=IntWalk.i64_in _ (by omega)
 go_enter Tryz.func151,Tryz.ntmps151
 go_wp2_with fail
 refine hM.out.mono ?_
 rintro e w1 ⟨rfl,rfl⟩
 go_upto_region 7 with (refine Jm _ rfl _ _ 98 rfl 3 i0 _ Tryz.underlying98 hi0 hz0 hz1 rfl .i64 .i64 _ _ n rfl rfl rfl rfl (by rw [hz2]; omega) (by unfold maxLen; omega) ?_; intro w2 hR2 hU2 hs2)
 have hB2:=hR2.blk
 have hb2:=hU2.below
 obtain ⟨m,rfl⟩ : ∃ m,n=m+1:=⟨n-1,by omega⟩
 have hmin:[Value.int .i64 v].length=Nat.min 1 (m+1):=by simp
 have hc2:w2.cell? ⟨g0,off,none⟩=some (.int .i64 v):=(hU2.at hg0 (by simp) off).trans hc
 have hsrc:0<[Value.int .i64 v].length→some (⟨w.heap.size,0,none⟩:Addr)=some ⟨w.heap.size,0,none⟩ ∧ ∃ ad,some (⟨g0,off,none⟩:Addr)=some ad ∧ ∀ j u,[Value.int .i64 v][j]? =some u→w2.cell? (ad.add j)=some u:=fun _=>⟨rfl,_,rfl,fun j u hj=>by
  cases j with
  | zero=>cases hj; exact hc2
  | succ j=>cases hj⟩
 obtain ⟨Z,hZ⟩ : ∃ Z,Z=List.replicate (m+1) (Value.int .i64 0):=⟨_,rfl⟩
 rw [← hZ] at hB2
 have hZ':=Lib.hid hZ
 have hZl:Z.length=m+1:=by rw [hZ]; simp
 clear hZ hR2 hU2
 go_wp2_with ((with_reducible show wpList _ _ _ _ _ _); refine wpList_copy_splice rfl (.tmp 31) (.tmp 32) 98 98 rfl 3 Tryz.underlying98 hsz _ _ (m+1) (m+1) 1 c0 rfl rfl w.heap.size 0 Z 3 hB2 [.int .i64 v] hmin hsrc (by simp; omega) (by simp [Value.oneCell']) w.heap.size w hb2 (Nat.le_refl _) ?_; intro w3 hg3 hb3)
 have hB3:Blk w3 w.heap.size (List.replicate 1 (.int .i64 v)++List.replicate m (.int .i64 0)) 3:=by
  have h:=hg3.out
  rw [hZ'.out,show List.replicate (m+1) (Value.int .i64 0)=List.replicate 0 (.int .i64 v)++List.replicate (m+1) (.int .i64 0) by simp] at h
  have e:=ZU 0 1 (m+1) (Value.int .i64 v) (Value.int .i64 0) (by omega)
  rw [show [Value.int .i64 v]=List.replicate 1 (Value.int .i64 v) by rfl,e] at h
  exact h
 clear hg3 hM hsrc hc2 hmin hb2 hB2
 go_loopg [8] m (fun g s8 wr => ∃ k,k≤m∧g=m-k∧s8 = .int .i64 ((k:Int)+1)∧Blk wr w.heap.size (List.replicate (k+1) (.int .i64 v)++List.replicate (m-k) (.int .i64 0)) 3∧Below w.heap.size w wr)
 case atStart=>exact ⟨0,by omega,rfl,rfl,hB3,hb3⟩
 case round =>
  obtain ⟨k,hkm,rfl,rfl,hB,hb⟩:=hrel
  by_cases hr:m=k
  · have hcz : ¬ ((k:Int)+1<(m:Int)+1):=by omega
    subst hr
    go_wp2
    go_returns
    have hlt:=hB.lt
    exact ⟨rfl,(by simpa using hB:Blk wr w.heap.size (List.replicate (m+1) (.int .i64 v)) 3).row _ (by simp) (by unfold maxLen; omega),.of_below hb,hlt⟩
  · have hcz:(k:Int)+1<(m:Int)+1:=by omega
    have hk0:0≤(k:Int)+1:=by omega
    obtain ⟨cur,hcur⟩ : ∃ cur,cur=List.replicate (k+1) (Value.int .i64 v)++List.replicate (m-k) (Value.int .i64 0):=⟨_,rfl⟩
    obtain ⟨cs,hcs⟩ : ∃ cs,cs=List.replicate (min (k+1) (m-k)) (Value.int .i64 v):=⟨_,rfl⟩
    have hl1:cs.length=Nat.min (k+1) (m-k):=by rw [hcs]; simp
    have hfit:k+1+cs.length≤cur.length:=by rw [hcs,hcur]; simp; omega
    have hone : ∀ u∈cs,u.oneCell'=true:=by intro u hu; rw [hcs] at hu; rw [(List.mem_replicate.1 hu).2]; rfl
    have hsrc : ∀ j u,cs[j]? =some u→wr.drew.cell? ((⟨w.heap.size,0,none⟩:Addr).add j)=some u:=fun j u hj=>by
     rw [hcs] at hj
     have hj':j<min (k+1) (m-k):=by have:=(List.getElem?_eq_some_iff.1 hj).1; simpa using this
     have hu:u = .int .i64 v:=by obtain ⟨h1,h2⟩:=List.getElem?_eq_some_iff.1 hj; rw [← h2]; simp
     have h:=hB.cell j (v := .int .i64 v) (by rw [List.getElem?_append_left (by simp; omega),List.getElem?_replicate]; simp; omega)
     rw [hu]
     cases j with
     | zero=>exact h
     | succ j=>simpa [Addr.add] using h
    rw [← hcur] at hB
    have hBd:wr.drew.heap[w.heap.size]? =some (Obj.cells cur.toArray 3 (0,0)):=hB
    have hbd:=hb.drew
    have HC:=Lib.hid hcur
    have HS:=Lib.hid hcs
    have HL:=Lib.hid hl1
    have HSRC:=Lib.hid hsrc
    have HONE:=Lib.hid hone
    have HB:=Lib.hid hBd
    clear hcur hcs hl1 hsrc hone hB hBd
    have hl2:cs.length≤1000:=by have:=HL.out; simp only [Nat.min_def] at this; split at this<;>omega
    go_wp2
    go_region_law ((refine step_copy_splice (by rfl) (.tmp 41) (.tmp 44) 98 98 (by rfl) 3 Tryz.underlying98 hsz (some ⟨w.heap.size,k+1,none⟩) (some ⟨w.heap.size,0,none⟩) (m-k) (m-k) (k+1) (m+1) (by simp [Act.put,Act.eval]) (by simp [Act.put,Act.eval]) w.heap.size (k+1) cur 3 HB.out cs HL.out (fun _=>⟨rfl,_,rfl,HSRC.out⟩) hfit HONE.out w.heap.size w hbd (Nat.le_refl _) ?_; intro w4 hg4 hb4))
    all_goals go_wp2
    all_goals (
     have hj:=HL.out
     have hj1:cs.length=min (k+1) (m-k):=hj
     have hcs:=HS.out
     rw [← hj1] at hcs
     have h4:=hg4.out
     rw [HC.out,hcs,ZU (k+1) cs.length (m-k) (Value.int .i64 v) (Value.int .i64 0) (by omega),show k+1+cs.length=k+cs.length+1 by omega,show m-k-cs.length=m-(k+cs.length) by omega] at h4)
    all_goals go_roundg (m-(k+cs.length))
    all_goals first
     | omega
     | (refine ⟨k+cs.length,by omega,rfl,by rw [show IntKind.i64.wrap ((k:Int)+1+(cs.length:Int))=(k:Int)+1+(cs.length:Int) from IntWalk.i64_in _ (by omega)]; congr 1; omega,h4,hb4⟩)
end Go.Proofs.YtfkcdnaghndgfaaGreatDoor
namespace Go.Proofs.YtfkcdnaghndgfaaGreatDoor
open Go.RowKit
def xX:List (Nat×Nat):=[(144,8),(112,9),(24,7),(8,8)]
def yT (i:Nat):List Nat:=(xX.take i).flatMap fun r=>List.replicate r.1 r.2
def zgB:List Value:=[.int .i64 144,.int .i64 8,.int .i64 112,.int .i64 9,.int .i64 24,.int .i64 7,.int .i64 8,.int .i64 8]
theorem zfw (i:Nat):(yT i).length≤288:=by
 unfold yT xX
 rcases i with _ | _ | _ | _ | i<;>simp only [List.take_zero,List.take_succ_cons,List.take_nil,List.flatMap_cons,List.flatMap_nil,List.length_append,List.length_replicate,List.length_nil,Nat.zero_add]<;>omega
theorem zd8 (i:Nat) (h:i<4):yT (i+1)=yT i++List.replicate (xX.getD i (0,0)).1 (xX.getD i (0,0)).2:=by
 have ht:xX.take (i+1)=xX.take i++[xX.getD i (0,0)]:=by
  rw [List.take_add_one,List.getD_eq_getElem?_getD,List.getElem?_eq_getElem (show i<xX.length from h)]
  rfl
 unfold yT
 rw [ht,List.flatMap_append]
 simp only [List.flatMap_cons,List.flatMap_nil,List.append_nil]
def zjd (w wr:World) (b:Nat) (v:Value) (i:Nat):Prop :=
 Row wr 3 1 v (yT i).length (zg (yT i))∧Upd [] w wr∧Blk wr b zgB 203∧v.ownBlock≠some b ∧ ∀ k,v.ownBlock=some k→w.heap.size≤k
set_option maxRecDepth 100000 in
set_option maxHeartbeats 3200000 in
theorem YY (w:World):Calls Tryz.prog 122 #[] w fun e w' => ∃ g1 c1 g2,e = .returned (.tuple #[.slice (some ⟨g1,0,none⟩) 288 c1,.slice (some ⟨g2,0,none⟩) 32 32]) ∧
 Row w' 3 1 (.slice (some ⟨g1,0,none⟩) 288 c1) 288 (zg (yT 4))∧Row w' 3 1 (.slice (some ⟨g2,0,none⟩) 32 32) 32 (zg (List.replicate 32 5))∧Upd [] w w'∧w.heap.size≤g1∧w.heap.size≤g2:=by
 obtain ⟨i0,hi0,hz0,hz1,hz2⟩:=info_parts jk
 go_enter Tryz.func122,Tryz.ntmps122
 go_wp2
 go_loopg [0,10] 4 (fun g s0 s10 wr => ∃ i,i≤4∧g=4-i∧s10 = .int .i64 (i:Nat)∧zjd w wr w.heap.size s0 i)
 case atStart=>exact ⟨0,by omega,rfl,rfl,Row.nil _ _ _,(Upd.refl _ _).alloc _,Blk.new _ _ _,by simp [Value.ownBlock],by simp [Value.ownBlock]⟩
 case round =>
  obtain ⟨i,hi,rfl,rfl,hRow,hU,hB,hne,hnew⟩:=hrel
  by_cases hc:i<4
  · have hcz:(i:Int)<4:=by omega
    obtain ⟨r,hr⟩ : ∃ r,r=xX.getD i (0,0):=⟨_,rfl⟩
    have hst:=zd8 i hc
    rw [← hr] at hst
    have d0:wr.cell? ⟨w.heap.size,i*2,none⟩=some (.int .i64 (r.1:Nat)):=hB.cell (i*2) (by rw [hr]; rcases i with _ | _ | _ | _ | i<;>first | rfl | omega)
    have d1:wr.cell? ⟨w.heap.size,i*2+1,none⟩=some (.int .i64 (r.2:Nat)):=hB.cell (i*2+1) (by rw [hr]; rcases i with _ | _ | _ | _ | i<;>first | rfl | omega)
    have hr1:1≤r.1∧r.1≤144∧r.2≤15:=by rw [hr]; rcases i with _ | _ | _ | _ | i<;>first | decide | omega
    have hlen:=zfw i
    obtain ⟨n,x⟩:=r
    simp only at d0 d1 hr1 hst
    generalize yT i=L at *
    clear hr
    go_wp2_with fail
    have hU2:Upd [] wr ((wr.alloc (Obj.cells #[.int .i64 (n:Nat),.int .i64 (x:Nat)] 203)).alloc (Obj.cells #[.int .i64 (x:Nat)] 3)):=((Upd.refl [] wr).alloc _).alloc _
    have hcc:((wr.alloc (Obj.cells #[.int .i64 (n:Nat),.int .i64 (x:Nat)] 203)).alloc (Obj.cells #[.int .i64 (x:Nat)] 3)).cell? ⟨wr.heap.size+1,0,none⟩=some (.int .i64 (x:Nat)):=by
     have h:=(Blk.new (wr.alloc (Obj.cells #[.int .i64 (n:Nat),.int .i64 (x:Nat)] 203)) [.int .i64 (x:Nat)] 3).cell 0 rfl
     rw [World.size_alloc] at h
     exact h
    generalize ((wr.alloc (Obj.cells #[.int .i64 (n:Nat),.int .i64 (x:Nat)] 203)).alloc (Obj.cells #[.int .i64 (x:Nat)] 3))=w2 at *
    refine (Yh (wr.heap.size+1) 0 1 n x w2 hcc hr1.1 (by omega)).mono ?_
    rintro e w5 ⟨rfl,hR5,hU5,hs5⟩
    have hRow5:=(hRow.upd hU2 (by simp)).upd hU5 (by simp)
    have hB5:=(hB.upd hU2 (by simp)).upd hU5 (by simp)
    have hUw5:=(hU.then hU2).then hU5
    have hnl:(List.replicate n (Value.int .i64 (x:Nat))).length=n*1:=by simp
    have hnews : ∀ j u,(List.replicate n (Value.int .i64 (x:Nat)))[j]? =some u→w5.cell? ((⟨w2.heap.size,0,none⟩:Addr).add j)=some u:=fun j u hj=>by
     have h:=hR5.cell j hj
     cases j with
     | zero=>exact h
     | succ j=>simpa [Addr.add] using h
    have hone : ∀ u∈List.replicate n (Value.int .i64 (x:Nat)),u.oneCell'=true:=by intro u hu; rw [(List.mem_replicate.1 hu).2]; rfl
    clear hRow hB hU hU2 hcc hR5 hs5 d0 d1
    obtain ⟨news,hnw⟩ : ∃ l,l=List.replicate n (Value.int .i64 (x:Nat)):=⟨_,rfl⟩
    rw [← hnw] at hnl hnews hone
    have HNW:=Lib.hid hnw
    have HNEWS:=Lib.hid hnews
    have HONE:=Lib.hid hone
    clear hnw hnews hone
    go_wp2_with (at_builtin; refine zv _ rfl _ _ 98 rfl 3 i0 _ 1 8 Tryz.underlying98 hi0 hz0 hz1 hz2 rfl (by omega) _ L.length _ rfl hRow5 ⟨w2.heap.size,0,none⟩ n n news rfl hnl HNEWS.out HONE.out (by unfold maxLen; omega) (by omega) ?_)
    intro v9 w9 hR9 hU9 hT9
    go_wp2
    go_roundg (4-(i+1))
    case measure=>omega
    case rel =>
     refine ⟨i+1,by omega,rfl,rfl,?_,?_,?_,?_,?_⟩
     · rw [hst,List.length_append,List.length_replicate]
       rw [HNW.out] at hR9
       simpa [zg,List.map_append] using hR9
     · exact hUw5.trans hU9 (fun k hk => .inr (hnew k (by simpa using hk)))
     · exact hB5.upd hU9 (by simpa [eq_comm] using hne)
     · exact hT9.ne hB5.lt hne
     · intro k hk
       rcases hT9 with h | ⟨g,h1,h2⟩
       · rw [h] at hk; exact hnew k hk
       · rw [h1] at hk; cases hk; exact Nat.le_trans hUw5.size h2
  · have hcz : ¬ (i:Int)<4:=by omega
    have hi4:i=4:=by omega
    subst hi4
    have hL4:(yT 4).length=288:=by
     unfold yT xX
     simp only [List.take_succ_cons,List.take_nil,List.flatMap_cons,List.flatMap_nil,List.length_append,List.length_replicate,List.length_nil]
    rw [hL4] at hRow
    generalize hL:yT 4=L4 at *
    have HL:=Lib.hid hL
    clear hL
    obtain ⟨g1,c1,rfl,hg1,hg2⟩:=hRow.form' (by omega)
    have hgw:w.heap.size≤g1:=hnew g1 rfl
    go_wp2_with fail
    have hU2:Upd [] wr (wr.alloc (Obj.cells #[.int .i64 5] 3)):=(Upd.refl [] wr).alloc _
    have hcc:=(Blk.new wr [.int .i64 5] 3).cell 0 rfl
    refine (Yh wr.heap.size 0 1 32 5 _ hcc (by omega) (by omega)).mono ?_
    rintro e w5 ⟨rfl,hR5,hU5,hs5⟩
    have hsz:=hU2.size
    generalize wr.alloc (Obj.cells #[.int .i64 5] 3)=w2 at *
    have hRow5:=(hRow.upd hU2 (by simp)).upd hU5 (by simp)
    have hUw5:=(hU.then hU2).then hU5
    go_wp2
    go_returns
    exact ⟨g1,c1,w2.heap.size,rfl,by rw [HL.out]; exact hRow5,hR5,hUw5,hgw,Nat.le_trans hU.size hsz⟩
end Go.Proofs.YtfkcdnaghndgfaaGreatDoor
namespace Go.Proofs.YtfkcdnaghndgfaaGreatDoor
open Go.RowKit
def OwnX (w0 w:World) (e:TypeId) (v:Value) (xs:List Value):Prop:=Row w e 1 v xs.length xs ∧ ∀ k,v.ownBlock=some k→w0.heap.size≤k
theorem OwnX.nil (w0 w:World) (e:TypeId):OwnX w0 w e (.slice none 0 0) []:=⟨Row.nil _ _ _,fun k h=>by cases h⟩
theorem OwnX.upd {w0 w w':World} {e:TypeId} {v:Value} {xs:List Value} (h:OwnX w0 w e v xs) (hu:Upd [] w w'):OwnX w0 w' e v xs:=⟨h.1.upd hu (by simp),h.2⟩
theorem OwnX.app {w0 w wm w':World} {e:TypeId} {v v':Value} {xs ys:List Value} (h:OwnX w0 w e v xs) (hu:Upd [] w0 w) (hm:Upd [] w wm) (hR:Row w' e 1 v' (xs.length+ys.length) (xs++ys)) (hU:Upd v.ownBlock.toList wm w') (hT:Later wm v v') :
 OwnX w0 w' e v' (xs++ys)∧Upd [] w0 w':=by
 refine ⟨⟨by rw [List.length_append]; exact hR,fun k hk=>?_⟩,(hu.then hm).trans hU (fun k hk => .inr (h.2 k (by simpa using hk)))⟩
 rcases hT with h1 | ⟨g,h1,h2⟩
 · exact h.2 k (by rw [← h1]; exact hk)
 · rw [h1] at hk; simp at hk h2; have:=(hu.then hm).size; omega
theorem OwnX.form {w0 w:World} {e:TypeId} {v:Value} {xs:List Value} (h:OwnX w0 w e v xs) : ∃ a c,v = .slice a xs.length c:=h.1.form
theorem OwnX.base {w0 w1 w:World} {e:TypeId} {v:Value} {xs:List Value} (h:OwnX w1 w e v xs) (hs:w0.heap.size≤w1.heap.size):OwnX w0 w e v xs:=⟨h.1,fun k hk=>Nat.le_trans hs (h.2 k hk)⟩
end Go.Proofs.YtfkcdnaghndgfaaGreatDoor
namespace Go.Proofs.YtfkcdnaghndgfaaGreatDoor
open Go.RowKit
def ints (l:List Nat):List Int:=l.map fun x:Nat=>(x:Int)
theorem IntsIn.row {w:World} {t:TypeId} {a:Option Addr} {k c:Nat} {l:List Nat} (h:Row w t 1 (.slice a k c) k (zg l)) (hb : ∀ x∈l,x≤9223372036854775807):IntsIn w a k (ints l):=by
 have hl:l.length=k:=by have:=h.len; rw [zw] at this; omega
 refine ⟨by simp [ints,hl],fun i hi=>?_⟩
 have hi2:i<l.length:=by simpa [ints] using hi
 obtain ⟨g,cc,e,_,_⟩:=h.form' (by omega)
 cases e
 have hx:=hb _ (List.getElem_mem hi2)
 refine ⟨g,0,rfl,?_,by simp [ints]<;>omega,by simp [ints]<;>omega⟩
 rw [Nat.zero_add,h.cell i (u := .int .i64 (l[i]:Nat)) (by simp [zg,hi2])]
 simp [ints]
theorem OwnX.ints {w0 w:World} {t:TypeId} {v:Value} {l:List Nat} (h:OwnX w0 w t v (zg l)) (hb : ∀ x∈l,x≤9223372036854775807) : ∃ a c,v = .slice a l.length c∧IntsIn w a l.length (ints l):=by
 obtain ⟨a,c,rfl⟩:=h.form
 have h1:=h.1
 rw [zw] at h1 ⊢
 exact ⟨a,c,rfl,IntsIn.row h1 hb⟩
theorem IntsIn.blk {w:World} {b n:Nat} {t:TypeId} {l:List Nat} (h:Blk w b (zg l) t) (hn:l.length=n) (hb : ∀ x∈l,x≤9223372036854775807):IntsIn w (some ⟨b,0,none⟩) n (ints l):=by
 refine ⟨by simp [ints,hn],fun i hi=>?_⟩
 have hi2:i<l.length:=by simpa [ints] using hi
 have hx:=hb _ (List.getElem_mem hi2)
 refine ⟨b,0,rfl,?_,by simp [ints]<;>omega,by simp [ints]<;>omega⟩
 rw [Nat.zero_add,h.cell i (v := .int .i64 (l[i]:Nat)) (by simp [zg,hi2])]
 simp [ints]
end Go.Proofs.YtfkcdnaghndgfaaGreatDoor
namespace Go.Proofs.YtfkcdnaghndgfaaGreatDoor
open Go.RowKit
theorem Zq (n:List Nat):(yy n=0∧jb n=0)∨(0<yy n∧yy n<32768∧jb n=2)∨(yy n=32768∧jb n=1)∨(32768<yy n∧jb n=3):=by
 unfold jb
 by_cases h1:yy n=0
 · simp [h1]
 · by_cases h2:yy n<32768
   · simp [h1,h2]; omega
   · by_cases h3:yy n=32768
     · simp [h3]
     · simp [h1,h2,h3]; omega
set_option maxRecDepth 100000 in
set_option maxHeartbeats 3200000 in
theorem kG (a:Option Addr) (len cap:Nat) (l:List Int) (w:World) (hlen:len≤9223372036854775807) (hI:IntsIn w a len l) :
 Calls Tryz.prog 110 #[.slice a len cap] w fun e w'=>e = .returned (.int .i64 (zi l:Nat))∧w=w':=by
 have hll:=hI.len
 have HI:=Lib.hid hI
 clear hI
 subst hll
 by_cases hlong:300<l.length
 · have hnz:((l.length:Nat):Int)>300:=by omega
   have hk:=Lib.hid (show zi l=3 by unfold zi; rw [if_neg (by rw [Zn hlong]; decide)])
   clear hlong
   go_enter Tryz.func110,Tryz.ntmps110
   go_wp2
   go_returns
   exact ⟨by rw [hk.out]; rfl,rfl⟩
 · have hnz : ¬ ((l.length:Nat):Int)>300:=by omega
   go_enter Tryz.func110,Tryz.ntmps110
   go_wp2
   go_loopg [3,13] l.length (fun g s3 s13 wr => ∃ i,i≤l.length∧g=l.length-i∧s13 = .int .i64 (i:Nat)∧s3 = .int .i64 (yy (zf (l.take i)):Nat)∧yE (l.take i)=true∧w=wr)
   case atStart=>exact ⟨0,by omega,rfl,rfl,rfl,kw (by simp) (by simp),rfl⟩
   case round =>
    obtain ⟨i,hin,rfl,rfl,rfl,hok,rfl⟩:=hrel
    have hle:yy (zf (l.take i))≤300*32768:=ziv _ (by rw [yQ,List.length_take]; omega)
    by_cases hc:i<l.length
    · have hcz:(i:Int)<(l.length:Int):=by omega
      obtain ⟨b,off,rfl,c0,r1,r2⟩:=HI.out.cell i hc
      by_cases hb:0≤l[i]∧l[i]≤15
      · obtain ⟨hb0,hb15⟩:=hb
        have hok2:=Lib.hid (Zk hc hok (by omega) hb0 hb15)
        obtain ⟨k,hk⟩ : ∃ k:Nat,l[i]=(k:Int):=⟨l[i].toNat,by omega⟩
        have hn2:=Lib.hid (show yy (zf (l.take (i+1)))=yy (zf (l.take i))+wt k by rw [take_snoc' l i hc,← Vd]; simp [zf,hk])
        rw [hk] at c0 hb0 hb15
        clear hk r1 r2 hok
        generalize yy (zf (l.take i))=s at *
        go_wp2
        go_loopg [6,7] k (fun g s6 s7 wx => ∃ j,j≤k∧g=k-j∧s7 = .int .i64 (j:Nat)∧s6 = .int .i64 ((2^(15-j):Nat):Int)∧w=wx)
        case atStart=>exact ⟨0,by omega,rfl,rfl,rfl,rfl⟩
        case round =>
         obtain ⟨j,hj,rfl,rfl,rfl,rfl⟩:=hrel
         have hp:2^(15-j)≤2^15:=Nat.pow_le_pow_right (by omega) (by omega)
         by_cases hjk:j<k
         · have hjz:(j:Int)<(k:Int):=by omega
           have hpp:=Lib.hid (show 2^(15-j)/2=2^(15-(j+1)) by rw [show 15-j=(15-(j+1))+1 by omega,Nat.pow_succ,Nat.mul_div_cancel _ (by omega)])
           generalize 2^(15-j)=p at *
           go_wp2
           go_roundg (k-(j+1))
           case measure=>omega
           case rel=>exact ⟨j+1,by omega,rfl,by go_num,by rw [← hpp.out]; simp,rfl⟩
         · have hjz : ¬ (j:Int)<(k:Int):=by omega
           have hjk':j=k:=by omega
           by_cases hk0:k=0
           · have hkz : ¬ (0:Int)<(k:Int):=by omega
             have hw0:=Lib.hid (show wt k=0 by unfold wt; rw [if_pos hk0])
             clear hk0 hjk'
             generalize 2^(15-j)=p at *
             go_wp2
             go_roundg (l.length-(i+1))
             case measure=>omega
             case rel=>exact ⟨i+1,by omega,rfl,by go_num,by rw [hn2.out,hw0.out]; rfl,hok2.out,rfl⟩
           · have hkz:(0:Int)<(k:Int):=by omega
             have hw0:=Lib.hid (show wt k=2^(15-j) by unfold wt; rw [if_neg hk0,hjk'])
             clear hk0 hjk'
             generalize 2^(15-j)=p at *
             go_wp2
             go_roundg (l.length-(i+1))
             case measure=>omega
             case rel=>exact ⟨i+1,by omega,rfl,by go_num,by rw [hn2.out,hw0.out]; simp,hok2.out,rfl⟩
      · have hk:=Lib.hid (show zi l=3 by unfold zi; rw [if_neg (by rw [Yg hc hb]; decide)])
        generalize yy (zf (l.take i))=s at *
        by_cases hb0:l[i]<0
        · generalize l[i]=x at *
          clear hb
          go_wp2
          go_returns
          exact ⟨by rw [hk.out]; rfl,rfl⟩
        · have hb15:15<l[i]:=by omega
          generalize l[i]=x at *
          clear hb
          go_wp2
          go_returns
          exact ⟨by rw [hk.out]; rfl,rfl⟩
    · have hcz : ¬ (i:Int)<(l.length:Int):=by omega
      have hi:i=l.length:=by omega
      rw [hi,List.take_length] at hok hle
      have e:yy (zf (l.take i))=yy (zf l):=by rw [hi,List.take_length]
      rw [e]
      have hkind:=Lib.hid (show zi l=jb (zf l) by unfold zi; rw [if_pos hok])
      have hkc:=Zq (zf l)
      clear hi e hle
      generalize yy (zf l)=s at *
      rcases hkc with ⟨h0,hkn⟩ | ⟨h0,h1,hkn⟩ | ⟨h0,hkn⟩ | ⟨h0,hkn⟩
      · have HK:=Lib.hid hkn
        have hs:(s:Int)=0:=by omega
        clear hkn
        go_wp2
        go_returns
        exact ⟨by rw [hkind.out,HK.out]; rfl,rfl⟩
      · have HK:=Lib.hid hkn
        have hs1:((s:Int)==0)=false:=by simp; omega
        have hs3:((s:Int)==32768)=false:=by simp; omega
        have hs2:decide ((s:Int)<32768)=true:=by simp; omega
        clear hkn h0 h1
        go_wp2
        go_returns
        exact ⟨by rw [hkind.out,HK.out]; rfl,rfl⟩
      · have HK:=Lib.hid hkn
        have hs:(s:Int)=32768:=by omega
        clear hkn
        go_wp2
        go_returns
        exact ⟨by rw [hkind.out,HK.out]; rfl,rfl⟩
      · have HK:=Lib.hid hkn
        have hs1:((s:Int)==0)=false:=by simp; omega
        have hs3:((s:Int)==32768)=false:=by simp; omega
        have hs2:decide ((s:Int)<32768)=false:=by simp; omega
        clear hkn h0
        go_wp2
        go_returns
        exact ⟨by rw [hkind.out,HK.out]; rfl,rfl⟩
end Go.Proofs.YtfkcdnaghndgfaaGreatDoor
namespace Go.Proofs.YtfkcdnaghndgfaaGreatDoor
open Go.RowKit
def vw (l:List Int):Nat:=l.countP fun k=>decide (0<k)
def zcJ (l:List Int):Nat:=l.countP fun k=>decide (k=1)
def yU (l:List Int):Bool:=decide (zi l=1)||(decide (vw l=1)&&decide (zcJ l=1))
theorem zcu {l:List Int} {i:Nat} (h:i<l.length):vw (l.take (i+1))=vw (l.take i)+if 0<l[i] then 1 else 0:=by
 unfold vw; rw [take_snoc' l i h,List.countP_append]; simp [List.countP_cons]
theorem zak (l:List Int):vw l≤l.length:=List.countP_le_length
def jW (l:List Int):Int:=(l.filter fun k=>decide (0<k)).getLastD 0
theorem Kg {l:List Int} {i:Nat} (h:i<l.length):jW (l.take (i+1))=if 0<l[i] then l[i] else jW (l.take i):=by
 unfold jW
 rw [take_snoc' l i h,List.filter_append]
 by_cases hp:0<l[i]
 · rw [if_pos hp,List.filter_cons_of_pos (by simpa using hp),List.filter_nil,List.getLastD_eq_getLast?]
   simp
 · rw [if_neg hp,List.filter_cons_of_neg (by simpa using hp),List.filter_nil,List.append_nil]
theorem zbY (l:List Int):yU l=(decide (zi l=1)||(decide (vw l=1)&&decide (jW l=1))):=by
 unfold yU
 by_cases hu:vw l=1
 · have hf:(l.filter fun k=>decide (0<k)).length=1:=by rw [← List.countP_eq_length_filter]; exact hu
   obtain ⟨x,hx⟩:=List.length_eq_one_iff.1 hf
   have hone:zcJ l=if x=1 then 1 else 0:=by
    have e:zcJ l=(l.filter fun k=>decide (0<k)).countP fun k=>decide (k=1):=by
     unfold zcJ
     rw [List.countP_filter]
     congr 1
     funext k
     by_cases h:k=1
     · simp [h]
     · simp [h]
    rw [e,hx]
    by_cases h:x=1<;>simp [h]
   have hl:jW l=x:=by unfold jW; rw [hx]; rfl
   rw [hl,hone]
   by_cases h:x=1<;>simp [h]
 · simp [hu]
set_option maxRecDepth 100000 in
set_option maxHeartbeats 1600000 in
theorem JZ (x:Option Addr) (cap:Nat) (l:List Int) (w:World) (hlen:l.length≤100000) (hI:IntsIn w x l.length l) :
 Calls Tryz.prog 113 #[.slice x l.length cap] w fun e w'=>e = .returned (.bool (yU l))∧w=w':=by
 have HK:=Lib.hid (kG x l.length cap l w (by omega) hI)
 have HI:=Lib.hid hI
 clear hI
 go_enter Tryz.func113,Tryz.ntmps113
 go_wp2
 go_loopg [3,4,9] l.length (fun g s3 s4 s9 wr => ∃ i,i≤l.length∧g=l.length-i∧s9 = .int .i64 (i:Nat)∧s3 = .int .i64 (vw (l.take i):Nat)∧s4 = .int .i64 (jW (l.take i))∧w=wr)
 case atStart=>exact ⟨0,by omega,rfl,rfl,rfl,rfl,rfl⟩
 case round =>
  obtain ⟨i,hi,rfl,rfl,rfl,rfl,rfl⟩:=hrel
  by_cases hc:i<l.length
  · have hcz:(i:Int)<(l.length:Int):=by omega
    obtain ⟨b,off,rfl,c,hb1,hb2⟩:=HI.out.cell i hc
    have hu:=zcu hc
    have hl:=Kg hc
    have hul:=zak (l.take i)
    rw [List.length_take] at hul
    have HU:=Lib.hid hu
    have HL:=Lib.hid hl
    clear hu hl
    generalize l[i]=y at *
    by_cases hy:0<y
    · have t1:decide (0<y)=true:=decide_eq_true hy
      go_wp2
      go_roundg (l.length-(i+1))
      case measure=>omega
      case rel =>
       refine ⟨i+1,by omega,rfl,by first | rfl | go_num,?_,?_,rfl⟩
       · rw [HU.out,if_pos hy]; first | rfl | go_num
       · rw [HL.out,if_pos hy]
    · have t1:decide (0<y)=false:=decide_eq_false hy
      go_wp2
      go_roundg (l.length-(i+1))
      case measure=>omega
      case rel =>
       refine ⟨i+1,by omega,rfl,by first | rfl | go_num,?_,?_,rfl⟩
       · rw [HU.out,if_neg (by omega)]; first | rfl | go_num
       · rw [HL.out,if_neg (by omega)]
  · have hcz : ¬ (i:Int)<(l.length:Int):=by omega
    have hil:i=l.length:=by omega
    subst hil
    rw [List.take_length]
    have hok:=Lib.hid (zbY l)
    have hul:=zak l
    generalize vw l=u at *
    generalize jW l=y at *
    generalize zi l=kk at *
    by_cases h1:kk=1
    · have t1:((kk:Int)==1)=true:=by rw [h1]; rfl
      go_wp2_with fail
      refine HK.out.mono ?_
      rintro e w2 ⟨rfl,rfl⟩
      go_wp2
      go_returns
      exact ⟨by rw [hok.out]; simp [h1],rfl⟩
    · have t1:((kk:Int)==1)=false:=by simp; omega
      by_cases h2:u=1
      · have t2:((u:Int)==1)=true:=by rw [h2]; rfl
        by_cases h3:y=1
        · have t3:(y==1)=true:=by rw [h3]; rfl
          go_wp2_with fail
          refine HK.out.mono ?_
          rintro e w2 ⟨rfl,rfl⟩
          go_wp2
          go_returns
          exact ⟨by rw [hok.out]; simp [h2,h3],rfl⟩
        · have t3:(y==1)=false:=by simp [h3]
          go_wp2_with fail
          refine HK.out.mono ?_
          rintro e w2 ⟨rfl,rfl⟩
          go_wp2
          go_returns
          exact ⟨by rw [hok.out]; simp [h1,h3],rfl⟩
      · have t2:((u:Int)==1)=false:=by simp; omega
        go_wp2_with fail
        refine HK.out.mono ?_
        rintro e w2 ⟨rfl,rfl⟩
        go_wp2
        go_returns
        exact ⟨by rw [hok.out]; simp [h1,h2],rfl⟩
end Go.Proofs.YtfkcdnaghndgfaaGreatDoor
