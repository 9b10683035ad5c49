/- In a round of a loop over an iterator: a region that draws its order goes by the laws of a plain walk. -/
import Derived.OrdersIn
import Derived.TacticsIn
import Derived.WalkKit
import Derived.RangeFuncCalls
import Derived.Deep.RegionHeld
import Derived.Test.YtigjingielnaoaaGreatDoorQAE
import Derived.Deep.QuietTactic
import Derived.BigQuiet
import Derived.Test.YtigjingielnaoaaGreatDoorQAL
import Derived.Test.YtigjingielnaoaaGreatDoorQAK
set_option linter.unusedVariables false
set_option linter.unusedSimpArgs false
set_option linter.unusedSectionVars false
namespace Go.Proofs.YtigjingielnaoaaGreatDoor
open Go.RowKit
def kK (ops:Array Oper):Bool:=ops.all fun o=>match o.op with | .defer _=>false | _=>true
theorem ZU {ops:Array Oper} (h:kK ops=true) {i:Nat} {o:Oper} (hi:ops[i]? =some o) : ∀ c,o.op ≠ .defer c:=by
 intro c e
 unfold kK at h
 rw [Array.all_eq_true] at h
 obtain ⟨hl,hg⟩:=Array.getElem?_eq_some_iff.1 hi
 have:=h i hl
 rw [hg,e] at this
 cases this
theorem Xz {n l:Nat} {P:Program} {row:String} {args:Array Value} {w:World} {R:Value→World→Prop} (h:Rows P row args w R):RowsIn (Fence.wide.inRound l) n P row args w R:=by
 intro c cs _
 obtain ⟨v,w',hr,hs⟩:=h c cs
 refine ⟨v,w',hr,?_⟩
 rw [fenced_inRound]
 exact stepsIn_wide.2 hs
theorem zdA {n l:Nat} {P:Program} {o:Oper} {a:Act} {w:World} {K:Act→World→Prop} {Q:Exit→Act→World→Prop} (hd : ∀ c,o.op ≠ .defer c) (h:o.wp P a w K Q):o.wpIn (Fence.wide.inRound l) n P a w K Q:=by
 refine ⟨fun _ _=>trivial,?_⟩
 rw [Oper.semAt_eq _ _ _ hd]
 unfold Oper.wp at h
 generalize (execOp a.eval o).run P w=r at h ⊢
 cases r with
 | ok x w' =>
   cases x with
   | value v=>exact h
   | skip=>exact h
   | defer d=>exact h
   | enter f args=>exact ⟨fun e=>by simp [Fence.inRound,Fence.wide] at e,CallsIn.inRound l ((callsIn_wide.2 h).mono fun e w'' he=>by cases e<;>exact he)⟩
   | row r args=>exact ⟨fun e=>by simp [Fence.inRound,Fence.wide] at e,Xz h⟩
   | _=>exact h.elim
 | halt x w'=>cases x<;>exact h
theorem zbg {n l:Nat} {P:Program} {ops:Array Oper} {Q:Exit→Act→World→Prop} (hno : ¬ LetsOut Q) (hd:kK ops=true) {i:Nat} {K:Act→World→Prop} {a:Act} {w:World} (h:wpOp P ops Q i K a w):wpOpIn (Fence.wide.inRound l) n P ops Q i K a w:=by
 unfold wpOp at h
 unfold wpOpIn
 cases hi:ops[i]? with
 | none=>rw [hi] at h; exact h
 | some o =>
   rw [hi] at h
   simp only at h ⊢
   by_cases hw:Region.wanted o (yielded ops a.tmps)=true
   · rw [if_pos hw] at h ⊢
     rcases h with h | h
     · exact zdA (ZU hd hi) h
     · exact absurd h.2 hno
   · rw [if_neg hw] at h ⊢
     exact ⟨fun _ _=>trivial,h⟩
theorem Qj {n l:Nat} {P:Program} {md:Region.Mode} {ops:Array Oper} {Q:Exit→Act→World→Prop} (hno : ¬ LetsOut Q) (hd:kK ops=true) : ∀ (fuel:Nat) (listed:Array Bool) (a:Act) (w:World),wpAny P md ops Q fuel listed a w→wpAnyIn (Fence.wide.inRound l) n P md ops Q fuel listed a w
 | 0,_,_,_,h=>h
 | fuel+1,listed,a,w,h=>⟨h.1,fun i hi=>wpOpIn_mono (fun a' w' h'=>Qj hno hd fuel _ a' w' h') (zbg hno hd (h.2 i hi))⟩
theorem zaN {n l:Nat} {P:Program} {o:Oper} {a:Act} {w:World} {K K':Act→World→Prop} {Q:Exit→Act→World→Prop} (hd : ∀ c,o.op ≠ .defer c) (h:o.wp P a w K (Exit.then K' fun _ _ _=>False)):o.wpIn (Fence.wide.inRound l) n P a w K Q:=by
 refine ⟨fun _ _=>trivial,?_⟩
 rw [Oper.semAt_eq _ _ _ hd]
 unfold Oper.wp at h
 generalize (execOp a.eval o).run P w=r at h ⊢
 have hno : ¬ LetsOut (Exit.then K' fun _ _ _=>False):=by rintro ⟨a,w,h⟩; exact h
 cases r with
 | ok x w' =>
   cases x with
   | value v=>exact h
   | skip=>exact h
   | defer d=>exact h
   | enter f args =>
     exact ⟨fun e=>by simp [Fence.inRound,Fence.wide] at e,CallsIn.inRound l ((callsIn_wide.2 h).mono fun e w'' he=>by
      cases e with
      | returned v=>exact he
      | panicked ch=>exact False.elim he
      | outgrown=>exact absurd he hno)⟩
   | row r args=>exact ⟨fun e=>by simp [Fence.inRound,Fence.wide] at e,Xz h⟩
   | _=>exact h.elim
 | halt x w'=>cases x<;>exact False.elim h
theorem kt {n l:Nat} {P:Program} {ops:Array Oper} {Q:Exit→Act→World→Prop} {K':Act→World→Prop} (hK : ∀ a w,K' a w→Q .normal a w) : ∀ (os:List Oper),(os.all fun o=>match o.op with | .defer _=>false | _=>true)=true → ∀ (a:Act) (w:World),wpList P ops (Exit.then K' fun _ _ _=>False) os a w→wpListIn (Fence.wide.inRound l) n P ops Q os a w
 | [],_,_,_,h=>hK _ _ h
 | o::os,hd,a,w,h=>by
   rw [List.all_cons,Bool.and_eq_true] at hd
   unfold wpList at h
   unfold wpListIn
   by_cases hw:Region.wanted o (yielded ops a.tmps)=true
   · rw [if_pos hw] at h ⊢
     rcases h with h | h
     · exact Oper.wpIn_mono (fun a' w' h'=>kt hK os hd.2 a' w' h') (zaN (fun c e=>by rw [e] at hd; cases hd.1) h)
     · obtain ⟨_,a,w,h⟩:=h; exact h.elim
   · rw [if_neg hw] at h ⊢
     exact ⟨fun _ _=>trivial,kt hK os hd.2 _ _ h⟩
theorem za7 {n l:Nat} {P:Program} {ops:Array Oper} {Q:Exit→Act→World→Prop} (os:List Oper) (a:Act) (w:World) (hd:(os.all fun o=>match o.op with | .defer _=>false | _=>true)=true)
 (h : ∀ K:Act→World→Prop,(∀ a w,Q .normal a w→K a w)→wpList P ops (Exit.then K fun _ _ _=>False) os a w):wpListIn (Fence.wide.inRound l) n P ops Q os a w :=
 kt (K':=fun a w=>Q .normal a w) (fun _ _ h=>h) os hd a w (h _ fun _ _ h=>h)
theorem ZJ {n l id:Nat} {P:Program} {ops:Array Oper} {Q:Exit→Act→World→Prop} {S:World→Prop} {a:Act} {w:World} (hm:P.follows .mixedOrders=true) (hd:kK ops=true) (hS:S w.drew)
 (h:S w.drew → ∀ K:Act→World→Prop,(∀ a w,Q .normal a w→K a w)→wpAnyH P .any ops (Exit.then K fun _ _ _=>False) S ops.size (Array.replicate ops.size false) a w.drew):(Code.region id ops true).wpIn (Fence.wide.inRound l) n P Q a w:=by
 refine wpIn_mono (wpIn_region_any hm (Qj ?_ hd _ _ _ _ (wpAny_of_held _ _ _ _ (h hS (fun a w=>Q .normal a w) fun _ _ h=>h)))) ?_
 · rintro ⟨a,w,h⟩
   exact h
 · intro e a w h
   cases e<;>first | exact h | exact h.elim
end Go.Proofs.YtigjingielnaoaaGreatDoor
namespace Go.Proofs.YtigjingielnaoaaGreatDoor
open Go.RowKit
theorem zbq (p q:List Nat) (hp : ∀ x∈p,x<256) (hq : ∀ x∈q,x<256):((zf p).toList != (zf q).toList)=decide (p≠q):=by
 rw [bne,zaw p (zf q) hp,zz q hq]
 by_cases h:p=q
 · rw [decide_eq_true h,decide_eq_false (fun k=>k h)]; rfl
 · rw [decide_eq_false h,decide_eq_true h]; rfl
theorem za4 (w:World) (a b:Nat) : ∃ k,(w.drewN a).drewN b=w.drewN k:=⟨a+b,by rw [World.drewN_drewN]⟩
theorem TextsAt.drewN {w:World} {v:Value} {l:List (List Nat)} (h:TextsAt w v l) (n:Nat):TextsAt (w.drewN n) v l:=h.upd ((Upd.refl [] w).drewN n)
set_option maxRecDepth 100000 in
set_option maxHeartbeats 3200000 in
theorem Vq (ps qs:List (List Nat)) (v1 v2:Value) (w:World) (h1:TextsAt w v1 ps) (h2:TextsAt w v2 qs) (hp : ∀ p∈ps,∀ x∈p,x<256) (hq : ∀ p∈qs,∀ x∈p,x<256) (hl:ps.length≤1000000) (hl2:qs.length≤1000000) :
 Calls Tryz.prog 23 #[v1,v2] w fun e w'=>e = .returned (.bool (decide (ps=qs)))∧Upd [] w w':=by
 obtain ⟨a1,c1,rfl,hc1,h1⟩:=h1
 obtain ⟨a2,c2,rfl,hc2,h2⟩:=h2
 by_cases hll:ps.length=qs.length
 rotate_left
 · have t1:((ps.length:Int) != (qs.length:Int))=true:=by rw [bne_iff_ne]; omega
   have t1n:(ps.length != qs.length)=true:=by rw [bne_iff_ne]; omega
   have hne:Hid (decide (ps=qs)=false):=Lib.hid (decide_eq_false (fun e=>hll (by rw [e])))
   have HLL:=Lib.hid hll
   clear hll h1 h2
   go_enter Tryz.func23,Tryz.ntmps23
   go_wp2
   go_ret
   exact ⟨by rw [hne.out]; rfl,Upd.refl _ _⟩
 · have H1:=Lib.hid h1
   have H2:=Lib.hid h2
   have HP:=Lib.hid hp
   have HQ:=Lib.hid hq
   have HLL:=Lib.hid hll
   obtain ⟨n,hn⟩ : ∃ n,ps.length=n:=⟨_,rfl⟩
   obtain ⟨n2,hn2⟩ : ∃ n,qs.length=n:=⟨_,rfl⟩
   have t1:((n:Int) != (n2:Int))=false:=by rw [bne_eq_false_iff_eq]; omega
   have t1n:(n != n2)=false:=by rw [bne_eq_false_iff_eq]; omega
   have HN:=Lib.hid hn
   have HN2:=Lib.hid hn2
   rw [hn] at hc1 hl ⊢
   rw [hn2] at hc2 hl2 ⊢
   clear h1 h2 hp hq hll hn hn2
   go_enter Tryz.func23,Tryz.ntmps23
   go_wp2
   go_loopg [13] n (fun gg s13 wr => ∃ i,i≤n∧gg=n-i∧s13 = .int .i64 (i:Nat)∧Hid (ps.take i=qs.take i)∧Hid (∃ k,wr=w.drewN k))
   case atStart=>exact ⟨0,Nat.zero_le _,rfl,rfl,Lib.hid rfl,Lib.hid ⟨0,rfl⟩⟩
   case round =>
    obtain ⟨i,hin,rfl,rfl,HT,HW⟩:=hrel
    by_cases hc:i<n
    · have hcz:(i:Int)<(n:Int):=by omega
      have hi1:i<ps.length:=by rw [HN.out]; exact hc
      have hi2:i<qs.length:=by rw [← HLL.out]; exact hi1
      have hin2:i<n2:=by rw [← HN2.out]; exact hi2
      obtain ⟨b1,o1,rfl,d1⟩:=H1.out i hi1
      obtain ⟨b2,o2,rfl,d2⟩:=H2.out i hi2
      obtain ⟨kk,hkk⟩:=HW.out
      have d1':wr.cell? ⟨b1,o1+i,none⟩=some (.string (zf ps[i])):=by rw [hkk]; exact d1
      have d2':wr.cell? ⟨b2,o2+i,none⟩=some (.string (zf qs[i])):=by rw [hkk]; exact d2
      have hne:=zbq ps[i] qs[i] (HP.out _ (List.getElem_mem hi1)) (HQ.out _ (List.getElem_mem hi2))
      have HS1:Hid (ps.take (i+1)=ps.take i++[ps[i]]):=Lib.hid (List.take_succ_eq_append_getElem hi1)
      have HS2:Hid (qs.take (i+1)=qs.take i++[qs[i]]):=Lib.hid (List.take_succ_eq_append_getElem hi2)
      have HG1:Hid (ps[i]? =some ps[i]∧qs[i]? =some qs[i]):=Lib.hid ⟨List.getElem?_eq_getElem hi1,List.getElem?_eq_getElem hi2⟩
      generalize ps[i]=P1 at *
      generalize qs[i]=P2 at *
      have HKK:=Lib.hid hkk
      clear d1 d2 hkk hi1 hi2
      by_cases he:P1=P2
      · have t2:((zf P1).toList != (zf P2).toList)=false:=by rw [hne]; exact decide_eq_false (fun k=>k he)
        have t3:((zf P1).toList==(zf P2).toList)=true:=by rw [he]; simp
        have HE:=Lib.hid he
        clear hne he
        generalize zf P1=Q1 at *
        generalize zf P2=Q2 at *
        go_wp2
        go_quiet (fail)
        go_wp2
        go_roundg (n-(i+1))
        · exact ⟨i+1,by omega,rfl,by first | rfl | go_num,Lib.hid (by rw [HS1.out,HS2.out,HT.out,HE.out]),Lib.hid (by rw [HKK.out]; exact za4 w _ _)⟩
        · omega
      · have t2:((zf P1).toList != (zf P2).toList)=true:=by rw [hne]; exact decide_eq_true he
        have t3:((zf P1).toList==(zf P2).toList)=false:=by
         cases h:((zf P1).toList==(zf P2).toList) with
         | false=>rfl
         | true=>rw [bne,h] at t2; cases t2
        have HD:Hid (decide (ps=qs)=false):=Lib.hid (decide_eq_false (fun e=>he (by
         have:=HG1.out
         rw [e] at this
         have h3:=this.1.symm.trans this.2
         exact Option.some.inj h3)))
        have HE:=Lib.hid he
        clear hne he
        generalize zf P1=Q1 at *
        generalize zf P2=Q2 at *
        go_wp2
        go_quiet (fail)
        go_wp2
        go_ret
        exact ⟨by rw [HD.out]; rfl,by rw [HKK.out]; exact ((Upd.refl [] w).drewN _).drewN _⟩
    · have hcz : ¬ (i:Int)<(n:Int):=by omega
      have HD:Hid (decide (ps=qs)=true):=Lib.hid (decide_eq_true (by
       have h:=HT.out
       rw [List.take_of_length_le (by have:=HN.out; omega),List.take_of_length_le (by have:=HN.out; have:=HLL.out; omega)] at h
       exact h))
      go_wp2
      go_ret
      obtain ⟨k,rfl⟩:=HW.out
      exact ⟨by rw [HD.out]; rfl,(Upd.refl _ _).drewN _⟩
end Go.Proofs.YtigjingielnaoaaGreatDoor
