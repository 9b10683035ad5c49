/- Package name: part. -/
import Derived.Test.YtigjingielnaoaaGreatDoorQAB
import Derived.Laws.Rows
import Derived.OwnWalk
import Derived.Test.YtigjingielnaoaaGreatDoorQAA
import Derived.Test.YtigjingielnaoaaGreatDoorRows
import Derived.WalkKit
import Derived.Handy
import Derived.Lib.MinMax
import Derived.IntWalk
import Derived.BigQuiet
import Derived.StillTailTactics
import Derived.Deep.QuietTactic
import Derived.Deep.RegionHeld3
import Derived.Deep.RegionLaw
import Derived.Deep.DeepCutAuto
import Derived.Deep.DeepFit
import Derived.Deep.LoopGhost
import Derived.Deep.Light
import Derived.Deep.CutBlock
import Derived.Laws.BitsAllLaws
import Derived.Outline
import Derived.WalkSpells
import Derived.Lib.Hide
set_option linter.unusedVariables false
set_option linter.unusedSimpArgs false
set_option linter.unusedSectionVars false
namespace Go.Proofs.YtigjingielnaoaaGreatDoor
open Go.RowKit
def vP (c:Nat):Bool:=decide (c<32)||decide (c=127)||decide (c=47)||decide (c=92)||decide (c=58)
theorem Zl {l:List Nat} {i c:Nat} (h:l[i]? =some c) (hb:vP c=true):yh l=false:=by
 have hm:c∈l:=List.mem_of_getElem? h
 have:l.all (fun c=>!(decide (c<32)||decide (c=127)||decide (c=47)||decide (c=92)||decide (c=58)))=false:=by
  rw [List.all_eq_false]
  exact ⟨c,hm,by unfold vP at hb; simp only [hb]; simp⟩
 unfold yh; rw [this]; rfl
theorem Xo {l:List Nat} (h : ∀ (i c:Nat),l[i]? =some c→vP c=false):yh l=(decide (1≤l.length)&&decide (l.length≤60)&&decide (l≠[46])&&decide (l≠[46,46])&&jp l):=by
 have:l.all (fun c=>!(decide (c<32)||decide (c=127)||decide (c=47)||decide (c=92)||decide (c=58)))=true:=by
  rw [List.all_eq_true]
  intro c hc
  obtain ⟨i,hi⟩:=List.getElem?_of_mem hc
  have:=h i c hi
  unfold vP at this
  simp only [this]; rfl
 unfold yh; rw [this]; simp
theorem yT (s:ByteArray) (l:List UInt8):(s.toList==l)=decide (ze s=l.map UInt8.toNat):=by
 rw [Bool.eq_iff_iff,beq_iff_eq,decide_eq_true_eq,ByteArray.toList_eq]
 constructor
 · intro h; unfold ze; rw [h]
 · intro h
   unfold ze at h
   have hi:Function.Injective UInt8.toNat:=fun a b e=>UInt8.toNat_inj.1 e
   exact (List.map_inj_right (fun a b e=>hi e)).1 h
theorem zcX (s:ByteArray):(s.toList==[46])=decide (ze s=[46]):=yT s [46]
theorem WO (s:ByteArray):(s.toList==[46,46])=decide (ze s=[46,46]):=yT s [46,46]
set_option maxRecDepth 100000 in
set_option maxHeartbeats 4000000 in
theorem zcA (s:ByteArray) (w:World) (hs:s.size≤9223372036854775807):Calls Tryz.prog 105 #[.string s] w fun e w'=>e = .returned (.bool (yh (ze s)))∧w=w':=by
 go_enter Tryz.func105,Tryz.ntmps105
 go_wp2
 go_loopg [7] s.size (fun g t wr => ∃ k:Nat,k≤s.size∧t = .int .i64 (k:Nat)∧g=s.size-k∧Hid (∀ i c:Nat,i<k→(ze s)[i]? =some c→vP c=false)∧w=wr)
 case atStart=>exact ⟨0,Nat.zero_le _,rfl,rfl,Lib.hid (fun i c h=>by omega),rfl⟩
 case round =>
  obtain ⟨k,hk,rfl,rfl,HA,rfl⟩:=hrel
  by_cases hc:k<s.size
  · have HG:=Lib.hid (bytesOf_get? s k hc)
    cases hb:vP s[k].toNat with
    | true =>
      have HE:=Lib.hid (Zl HG.out hb)
      unfold vP at hb
      have HB:=Lib.hid hb
      clear hb HA HG
      have fin : ∀ b:Bool,b=false→Ending.returned (.bool b) = .returned (.bool (yh (ze s))):=fun b h=>by rw [h,HE.out]
      have FIN:=Lib.hid fin
      clear fin
      by_cases c1:s[k].toNat<32
      · have t1:decide ((s[k].toNat:Int)<32)=true:=decide_eq_true (by omega)
        go_wp2
        go_ret
        exact ⟨FIN.out _ rfl,rfl⟩
      · have t1:decide ((s[k].toNat:Int)<32)=false:=decide_eq_false (by omega)
        by_cases c2:s[k].toNat=127
        · have t2:((s[k].toNat:Int)==127)=true:=by rw [beq_iff_eq]; omega
          clear c1 c2
          go_wp2
          go_ret
          exact ⟨FIN.out _ rfl,rfl⟩
        · have t2:((s[k].toNat:Int)==127)=false:=by rw [beq_eq_false_iff_ne]; omega
          by_cases c3:s[k].toNat=47
          · have t3:((s[k].toNat:Int)==47)=true:=by rw [beq_iff_eq]; omega
            clear c1 c2 c3
            go_wp2
            go_ret
            exact ⟨FIN.out _ rfl,rfl⟩
          · have t3:((s[k].toNat:Int)==47)=false:=by rw [beq_eq_false_iff_ne]; omega
            by_cases c4:s[k].toNat=92
            · have t4:((s[k].toNat:Int)==92)=true:=by rw [beq_iff_eq]; omega
              clear c1 c2 c3 c4
              go_wp2
              go_ret
              exact ⟨FIN.out _ rfl,rfl⟩
            · have t4:((s[k].toNat:Int)==92)=false:=by rw [beq_eq_false_iff_ne]; omega
              have t5:((s[k].toNat:Int)==58)=true:=by
               have:=HB.out
               simp [c1,c2,c3,c4] at this
               rw [beq_iff_eq]; omega
              clear c1 c2 c3 c4
              go_wp2
              go_ret
              exact ⟨FIN.out _ rfl,rfl⟩
    | false =>
      have HA2:Hid (∀ i c:Nat,i<k+1→(ze s)[i]? =some c→vP c=false):=Lib.hid (fun i c h1 h2=>by
       by_cases e:i=k
       · subst e; rw [HG.out] at h2; simp at h2; subst h2; exact hb
       · exact HA.out i c (by omega) h2)
      unfold vP at hb
      simp only [Bool.or_eq_false_iff,decide_eq_false_iff_not] at hb
      obtain ⟨⟨⟨⟨c1,c2⟩,c3⟩,c4⟩,c5⟩:=hb
      have t1:decide ((s[k].toNat:Int)<32)=false:=decide_eq_false (by omega)
      have t2:((s[k].toNat:Int)==127)=false:=by rw [beq_eq_false_iff_ne]; omega
      have t3:((s[k].toNat:Int)==47)=false:=by rw [beq_eq_false_iff_ne]; omega
      have t4:((s[k].toNat:Int)==92)=false:=by rw [beq_eq_false_iff_ne]; omega
      have t5:((s[k].toNat:Int)==58)=false:=by rw [beq_eq_false_iff_ne]; omega
      clear c1 c2 c3 c4 c5 HA HG
      go_wp2
      go_roundg (s.size-(k+1))
      all_goals first
       | omega
       | exact ⟨k+1,by omega,by go_num,rfl,HA2,rfl⟩
  · have hlen:=zg s
    have HE:=Lib.hid (Xo (l:=ze s) (fun i c h=>HA.out i c (by have:=(List.getElem?_eq_some_iff.1 h).1; omega) h))
    rw [hlen] at HE
    obtain rfl:k=s.size:=by omega
    have HL:=Lib.hid (fun w=>Vu s w hs)
    have HD1:=Lib.hid (zcX s)
    have HD2:=Lib.hid (WO s)
    clear hlen HA hc hk
    by_cases c1:1≤s.size
    · by_cases c2:s.size≤60
      · by_cases c3:ze s=[46]
        · have t3:(s.toList==[46])=true:=HD1.out.trans (decide_eq_true c3)
          have HZ:Hid (yh (ze s)=false):=Lib.hid (by rw [HE.out]; simp [c3])
          clear c3
          go_wp2
          go_ret
          exact ⟨by rw [HZ.out]; rfl,rfl⟩
        · have t3:(s.toList==[46])=false:=HD1.out.trans (decide_eq_false c3)
          by_cases c4:ze s=[46,46]
          · have t4:(s.toList==[46,46])=true:=HD2.out.trans (decide_eq_true c4)
            have HZ:Hid (yh (ze s)=false):=Lib.hid (by rw [HE.out]; simp [c4])
            clear c3 c4
            go_wp2
            go_ret
            exact ⟨by rw [HZ.out]; rfl,rfl⟩
          · have t4:(s.toList==[46,46])=false:=HD2.out.trans (decide_eq_false c4)
            have HZ:Hid (yh (ze s)=jp (ze s)):=Lib.hid (by rw [HE.out,decide_eq_true c1,decide_eq_true c2,decide_eq_true c3,decide_eq_true c4]; simp)
            clear c3 c4
            go_wp2_with (go_at_call 149; refine (HL.out _).mono ?_; rintro e w' ⟨rfl,rfl⟩)
            go_ret
            exact ⟨by rw [HZ.out]; rfl,rfl⟩
      · have HZ:Hid (yh (ze s)=false):=Lib.hid (by rw [HE.out,decide_eq_false c2]; simp)
        go_wp2
        go_ret
        exact ⟨by rw [HZ.out]; rfl,rfl⟩
    · have HZ:Hid (yh (ze s)=false):=Lib.hid (by rw [HE.out,decide_eq_false c1]; simp)
      go_wp2
      go_ret
      exact ⟨by rw [HZ.out]; rfl,rfl⟩
end Go.Proofs.YtigjingielnaoaaGreatDoor
namespace Go.Proofs.YtigjingielnaoaaGreatDoor
open Go.RowKit
section
variable {P:Program}
theorem zG {ops:Array Oper} {rest:List Oper} {o:Oper} {a:Act} {w:World} {Q:Exit→Act→World→Prop} (hgd:o.guard=none) (ty:TypeId) (x:Operand) (ho:o.op = .load ty x)
 (b:Nat) (hx:a.eval x = .pointer (some ⟨b,0,none⟩)) (t:TypeId) (cs:List Value) (hB:Blk w b cs t) (d:TypeDesc)
 (hu:P.underlying ty=some d) (hd:(match d with | .struct _ | .array _ _=>true | _=>false)=true) (hi:(P.info? ty).map (·.size)=some cs.length)
 (h:wpList P ops Q rest (a.put o.dst (.agg cs.toArray)) w):wpList P ops Q (o::rest) a w :=
 wpList_load_row hgd ty x ho b hx t cs.toArray (0,0) d hB hu hd (by simpa using hi) h
theorem Ye (w:World) (ty t:TypeId) (b:Nat) (cs ds:List Value) (hB:Blk w b cs t) (hi:(P.info? ty).map (·.size)=some cs.length) (hl:ds.length=cs.length) (h1 : ∀ v∈ds,v.oneCell'=true) :
 ∃ w',(storeVar ty ⟨b,0,none⟩ (.agg ds.toArray)).run P w = .ok () w'∧Blk w' b ds t∧Upd [b] w w':=by
 have hst:=run_storeCells_at P b 0 t ds 0 cs.toArray w hB (by simp; omega) h1
 have e:(((cs.toArray.toList.take (0+0))++ds++cs.toArray.toList.drop (0+0+ds.length)).toArray)=ds.toArray:=by
  simp [hl]
 obtain ⟨i,hi1,hi2⟩:=Option.map_eq_some_iff.1 hi
 refine ⟨w.setRow b ds.toArray,?_,?_,?_⟩
 · rw [e] at hst
   simp only [storeVar,Value.cells,sizeOf,typeInfo,Sem.run_bind,Sem.run_pure]
   simp [hi1,hi2,hl]
   simpa using hst
 · exact setRow_heap w b cs.toArray _ t _ hB
 · exact ⟨rfl,rfl,rfl,by simp,fun k _ hk=>setRow_other w b k _ (fun e=>hk (by simp [e]))⟩
theorem zO {ops:Array Oper} {rest:List Oper} {o:Oper} {a:Act} {w:World} {Q:Exit→Act→World→Prop} (hgd:o.guard=none) (ty:TypeId) (x y:Operand) (ho:o.op = .store ty x y)
 (b:Nat) (hx:a.eval x = .pointer (some ⟨b,0,none⟩)) (ds:List Value) (hy:a.eval y = .agg ds.toArray) (t:TypeId) (cs:List Value) (hB:Blk w b cs t)
 (hi:(P.info? ty).map (·.size)=some cs.length) (hl:ds.length=cs.length) (h1 : ∀ v∈ds,v.oneCell'=true)
 (h : ∀ w',Blk w' b ds t→Upd [b] w w'→wpList P ops Q rest (a.put o.dst undef) w'):wpList P ops Q (o::rest) a w:=by
 refine wpList_plain hgd fun K hK=>?_
 obtain ⟨w',hr,h2,h3⟩:=Ye (P:=P) w ty t b cs ds hB hi hl h1
 unfold Oper.wp execOp
 simp only [ho,hx,hy,Instr.storeAt,Instr.sureAddr,Sem.run_bind,Sem.run_pure,Result.andThen_ok,hr,Oper.upon]
 exact hK _ _ (h w' h2 h3)
theorem Yx (w:World) (ty t:TypeId) (b:Nat) (cs ds rs:List Value) (hB:Blk w b (cs++rs) t) (hi:(P.info? ty).map (·.size)=some cs.length) (hl:ds.length=cs.length) (h1 : ∀ v∈ds,v.oneCell'=true) :
 ∃ w',(storeVar ty ⟨b,0,none⟩ (.agg ds.toArray)).run P w = .ok () w'∧Blk w' b (ds++rs) t∧Upd [b] w w':=by
 have hst:=run_storeCells_at P b 0 t ds 0 (cs++rs).toArray w hB (by simp; omega) h1
 have e:((((cs++rs).toArray.toList.take (0+0))++ds++(cs++rs).toArray.toList.drop (0+0+ds.length)).toArray)=(ds++rs).toArray:=by
  simp [hl]
 obtain ⟨i,hi1,hi2⟩:=Option.map_eq_some_iff.1 hi
 refine ⟨w.setRow b (ds++rs).toArray,?_,?_,?_⟩
 · rw [e] at hst
   simp only [storeVar,Value.cells,sizeOf,typeInfo,Sem.run_bind,Sem.run_pure]
   simp [hi1,hi2,hl]
   simpa using hst
 · exact setRow_heap w b (cs++rs).toArray _ t _ hB
 · exact ⟨rfl,rfl,rfl,by simp,fun k _ hk=>setRow_other w b k _ (fun e=>hk (by simp [e]))⟩
theorem JN {ops:Array Oper} {rest:List Oper} {o:Oper} {a:Act} {w:World} {Q:Exit→Act→World→Prop} (hgd:o.guard=none) (ty:TypeId) (x y:Operand) (ho:o.op = .store ty x y)
 (b:Nat) (hx:a.eval x = .pointer (some ⟨b,0,none⟩)) (ds:List Value) (hy:a.eval y = .agg ds.toArray) (t:TypeId) (cs rs:List Value) (hB:Blk w b (cs++rs) t)
 (hi:(P.info? ty).map (·.size)=some cs.length) (hl:ds.length=cs.length) (h1 : ∀ v∈ds,v.oneCell'=true)
 (h : ∀ w',Blk w' b (ds++rs) t→Upd [b] w w'→wpList P ops Q rest (a.put o.dst undef) w'):wpList P ops Q (o::rest) a w:=by
 refine wpList_plain hgd fun K hK=>?_
 obtain ⟨w',hr,h2,h3⟩:=Yx (P:=P) w ty t b cs ds rs hB hi hl h1
 unfold Oper.wp execOp
 simp only [ho,hx,hy,Instr.storeAt,Instr.sureAddr,Sem.run_bind,Sem.run_pure,Result.andThen_ok,hr,Oper.upon]
 exact hK _ _ (h w' h2 h3)
theorem YA (T e:TypeId) (n:Nat) (hT:P.underlying T=some (.array n e)) (ik:IntKind) (he:P.underlying e=some (.int ik))
 (hs:(P.info? e).map (·.size)=some 1) (cs:List Value) (hl:cs.length=n) (k:IntKind) (i:Nat) (hi:i<n) (w:World) :
 (Instr.index T (.agg cs.toArray) (.int k (i:Int))).run P w = .ok (cs.getD i undef) w:=by
 obtain ⟨f,hf1,hf2⟩:=Option.map_eq_some_iff.1 hs
 simp [Instr.index,asIntOf,run_underlying hT,sizeOf,typeInfo,hf1,hf2,hi,part,isAgg,run_underlying he]
 simp [show i<cs.length by omega]
theorem kY (w:World) {ops:Array Oper} {rest:List Oper} {o:Oper} {a:Act} {Q:Exit→Act→World→Prop}
 (hg:o.guard=none) (l c:Operand) (t:TypeId) (hop:o.op=Op.makeSlice t l c)
 (e:TypeId) (i:TypeInfo) (z:Value) (h1:P.underlying t=some (.slice e)) (h2:P.info? e=some i) (h3:i.zero=some z) (h4:i.size=1) (hz:z.cells = #[z])
 (kl kc:IntKind) (L C:Int) (n:Nat) (hl:a.eval l = .int kl L) (hc:a.eval c = .int kc C) (hL:L=(n:Int)) (hC:C=(n:Int)) (b2:i.bytes*n≤281474976710656) (b3:n≤maxLen)
 (hK : ∀ w',Row w' e 1 (.slice (some ⟨w.heap.size,0,none⟩) n n) n (List.replicate n z)→Upd [] w w'→w.heap.size<w'.heap.size→wpList P ops Q rest (a.put o.dst (.slice (some ⟨w.heap.size,0,none⟩) n n)) w') :
 wpList P ops Q (o::rest) a w:=by
 refine wpList_make_full w hg l c t hop 0 e i z 1 h1 h2 h3 h4 kl kc L C n hl hc hL hC b2 b3 (Nat.zero_le _) ?_
 intro w' r1 r2
 rw [Nat.mul_one,hz,toList_madeCells_one] at r1
 refine hK w' r1 ((Upd.refl _ w).grown r2 (by simp)) ?_
 exact Row.lt r1 _ rfl
end
end Go.Proofs.YtigjingielnaoaaGreatDoor
namespace Go.Proofs.YtigjingielnaoaaGreatDoor
open Go.RowKit
theorem yH (n a:Nat) (h:a<2^n):(BitVec.ofInt n (a:Int)).toNat=a:=by
 rw [BitVec.ofInt_natCast,BitVec.toNat_ofNat]; exact Nat.mod_eq_of_lt h
theorem jQ (a:Nat) (h:a<4294967296):IntKind.u32.wrap (a:Int)=(a:Int):=by rw [IntKind.wrap_u32]; omega
theorem Ve (a:Nat) (h:a<256):IntKind.u8.wrap (a:Int)=(a:Int):=by rw [IntKind.wrap_u8]; omega
theorem zac (a b:Nat) (ha:a<4294967296) (hb:b<4294967296):bits .and .u32 (a:Int) (b:Int)=((a &&& b:Nat):Int):=by
 show IntKind.u32.wrap ((BitVec.ofInt 32 (a:Int) &&& BitVec.ofInt 32 (b:Int)).toNat:Int)=_
 rw [BitVec.toNat_and,yH 32 a ha,yH 32 b hb]
 exact jQ _ (Nat.and_lt_two_pow a (n:=32) hb)
theorem JU (a b:Nat) (ha:a<4294967296) (hb:b<4294967296):bits .xor .u32 (a:Int) (b:Int)=((a ^^^ b:Nat):Int):=by
 show IntKind.u32.wrap ((BitVec.ofInt 32 (a:Int) ^^^ BitVec.ofInt 32 (b:Int)).toNat:Int)=_
 rw [BitVec.toNat_xor,yH 32 a ha,yH 32 b hb]
 exact jQ _ (Nat.xor_lt_two_pow (n:=32) ha hb)
theorem zeI (a b:Nat) (ha:a<256) (hb:b<256):bits .xor .u8 (a:Int) (b:Int)=((a ^^^ b:Nat):Int):=by
 show IntKind.u8.wrap ((BitVec.ofInt 8 (a:Int) ^^^ BitVec.ofInt 8 (b:Int)).toNat:Int)=_
 rw [BitVec.toNat_xor,yH 8 a ha,yH 8 b hb]
 exact Ve _ (Nat.xor_lt_two_pow (n:=8) ha hb)
theorem zc3 (t f k:Nat) (ht:t<4294967296) (hk:k≤7):bits .and .u32 ((t:Int)/2^f) ((2^k-1)%4294967296)=((t/2^f%2^k:Nat):Int):=by
 have h1:(1:Nat)≤2^k:=Nat.one_le_two_pow
 have h2:(2:Nat)^k≤2^7:=Nat.pow_le_pow_right (by omega) hk
 have e1:((t:Int)/2^f)=((t/2^f:Nat):Int):=by simp
 have e2:(((2:Int)^k-1)%4294967296)=((2^k-1:Nat):Int):=by
  have:((2:Int)^k)=((2^k:Nat):Int):=by simp
  rw [this]; omega
 rw [e1,e2,zac _ _ (Nat.lt_of_le_of_lt (Nat.div_le_self _ _) ht) (by omega),Nat.and_two_pow_sub_one_eq_mod]
theorem WC (a:Nat) (h:a<9223372036854775808):wrap64 (a:Int)=(a:Int):=by unfold wrap64; omega
end Go.Proofs.YtigjingielnaoaaGreatDoor
namespace Go.Proofs.YtigjingielnaoaaGreatDoor
open Go.RowKit
set_option maxRecDepth 100000 in
set_option maxHeartbeats 8000000 in
theorem zb7 (s:ByteArray) (w:World) (hs:s.size≤1100000):Calls Tryz.prog 108 #[.string s] w fun e w'=>e = .returned (.bool (jp (ze s)))∧w=w':=by
 go_enter Tryz.func108,Tryz.ntmps108
 go_wp2
 go_loopg [3] s.size (fun g t wr => ∃ i:Nat,i≤s.size∧t = .int .i64 (i:Nat)∧g=s.size-i∧Hid (jp (ze s)=jp ((ze s).drop i))∧w=wr)
 case atStart=>exact ⟨0,Nat.zero_le _,rfl,rfl,Lib.hid rfl,rfl⟩
 case round =>
  obtain ⟨i,hi,rfl,rfl,HU,rfl⟩:=hrel
  by_cases hc:i<s.size
  · have hg0:((ze s).drop i)[0]? =some s[i].toNat:=by rw [List.getElem?_drop]; exact bytesOf_get? s i hc
    have HG:=Lib.hid hg0
    clear hg0
    have hlt:s[i].toNat<256:=s[i].toNat_lt
    obtain ⟨c,hcc⟩ : ∃ c,s[i].toNat=c:=⟨_,rfl⟩
    have HCC:=Lib.hid hcc
    rw [hcc] at HG
    clear hcc
    go_upto_if 19 with fail
    rw [HCC.out] at hlt ⊢
    go_cut [5,6,7] (fun s5 s6 s7 wx => ∃ n lo hi a b:Nat,s5 = .int .i64 (n:Nat)∧s6 = .int .i64 (lo:Nat)∧s7 = .int .i64 (hi:Nat)∧Hid (zm c=(n,a,b)∧(2≤n→lo=a∧hi=b))∧w=wx)
    case first =>
     have ways:(c<128)∨(128≤c∧c<194)∨(194≤c∧c≤223)∨(c=224)∨(225≤c∧c<237)∨(c=237)∨(238≤c∧c≤239)∨(c=240)∨(241≤c∧c≤243)∨(c=244)∨(245≤c):=by omega
     clear HU HG HCC
     rcases ways with h0 | h0 | h0 | h0 | h0 | h0 | h0 | h0 | h0 | h0 | h0
     · have e1:((c:Int)==224)=false:=by rw [beq_eq_false_iff_ne]; omega
       have e2:((c:Int)==237)=false:=by rw [beq_eq_false_iff_ne]; omega
       have e3:((c:Int)==240)=false:=by rw [beq_eq_false_iff_ne]; omega
       have e4:((c:Int)==244)=false:=by rw [beq_eq_false_iff_ne]; omega
       go_wp2
       go_meet
       exact ⟨1,128,191,0,0,rfl,rfl,rfl,Lib.hid ⟨by unfold zm; (repeat' split)<;>first | rfl | (exfalso; omega),by omega⟩,rfl⟩
     · have e1:((c:Int)==224)=false:=by rw [beq_eq_false_iff_ne]; omega
       have e2:((c:Int)==237)=false:=by rw [beq_eq_false_iff_ne]; omega
       have e3:((c:Int)==240)=false:=by rw [beq_eq_false_iff_ne]; omega
       have e4:((c:Int)==244)=false:=by rw [beq_eq_false_iff_ne]; omega
       go_wp2
       go_meet
       exact ⟨0,128,191,0,0,rfl,rfl,rfl,Lib.hid ⟨by unfold zm; (repeat' split)<;>first | rfl | (exfalso; omega),by omega⟩,rfl⟩
     · have e1:((c:Int)==224)=false:=by rw [beq_eq_false_iff_ne]; omega
       have e2:((c:Int)==237)=false:=by rw [beq_eq_false_iff_ne]; omega
       have e3:((c:Int)==240)=false:=by rw [beq_eq_false_iff_ne]; omega
       have e4:((c:Int)==244)=false:=by rw [beq_eq_false_iff_ne]; omega
       go_wp2
       go_meet
       exact ⟨2,128,191,128,191,rfl,rfl,rfl,Lib.hid ⟨by unfold zm; (repeat' split)<;>first | rfl | (exfalso; omega),by omega⟩,rfl⟩
     · subst h0
       go_wp2
       go_meet
       exact ⟨3,160,191,160,191,rfl,rfl,rfl,Lib.hid ⟨by unfold zm; (repeat' split)<;>first | rfl | (exfalso; omega),by omega⟩,rfl⟩
     · have e1:((c:Int)==224)=false:=by rw [beq_eq_false_iff_ne]; omega
       have e2:((c:Int)==237)=false:=by rw [beq_eq_false_iff_ne]; omega
       have e3:((c:Int)==240)=false:=by rw [beq_eq_false_iff_ne]; omega
       have e4:((c:Int)==244)=false:=by rw [beq_eq_false_iff_ne]; omega
       go_wp2
       go_meet
       exact ⟨3,128,191,128,191,rfl,rfl,rfl,Lib.hid ⟨by unfold zm; (repeat' split)<;>first | rfl | (exfalso; omega),by omega⟩,rfl⟩
     · subst h0
       go_wp2
       go_meet
       exact ⟨3,128,159,128,159,rfl,rfl,rfl,Lib.hid ⟨by unfold zm; (repeat' split)<;>first | rfl | (exfalso; omega),by omega⟩,rfl⟩
     · have e1:((c:Int)==224)=false:=by rw [beq_eq_false_iff_ne]; omega
       have e2:((c:Int)==237)=false:=by rw [beq_eq_false_iff_ne]; omega
       have e3:((c:Int)==240)=false:=by rw [beq_eq_false_iff_ne]; omega
       have e4:((c:Int)==244)=false:=by rw [beq_eq_false_iff_ne]; omega
       go_wp2
       go_meet
       exact ⟨3,128,191,128,191,rfl,rfl,rfl,Lib.hid ⟨by unfold zm; (repeat' split)<;>first | rfl | (exfalso; omega),by omega⟩,rfl⟩
     · subst h0
       go_wp2
       go_meet
       exact ⟨4,144,191,144,191,rfl,rfl,rfl,Lib.hid ⟨by unfold zm; (repeat' split)<;>first | rfl | (exfalso; omega),by omega⟩,rfl⟩
     · have e1:((c:Int)==224)=false:=by rw [beq_eq_false_iff_ne]; omega
       have e2:((c:Int)==237)=false:=by rw [beq_eq_false_iff_ne]; omega
       have e3:((c:Int)==240)=false:=by rw [beq_eq_false_iff_ne]; omega
       have e4:((c:Int)==244)=false:=by rw [beq_eq_false_iff_ne]; omega
       go_wp2
       go_meet
       exact ⟨4,128,191,128,191,rfl,rfl,rfl,Lib.hid ⟨by unfold zm; (repeat' split)<;>first | rfl | (exfalso; omega),by omega⟩,rfl⟩
     · subst h0
       go_wp2
       go_meet
       exact ⟨4,128,143,128,143,rfl,rfl,rfl,Lib.hid ⟨by unfold zm; (repeat' split)<;>first | rfl | (exfalso; omega),by omega⟩,rfl⟩
     · have e1:((c:Int)==224)=false:=by rw [beq_eq_false_iff_ne]; omega
       have e2:((c:Int)==237)=false:=by rw [beq_eq_false_iff_ne]; omega
       have e3:((c:Int)==240)=false:=by rw [beq_eq_false_iff_ne]; omega
       have e4:((c:Int)==244)=false:=by rw [beq_eq_false_iff_ne]; omega
       go_wp2
       go_meet
       exact ⟨0,128,191,0,0,rfl,rfl,rfl,Lib.hid ⟨by unfold zm; (repeat' split)<;>first | rfl | (exfalso; omega),by omega⟩,rfl⟩
    case rest =>
     obtain ⟨n,lo,hi,a,b,rfl,rfl,rfl,HP,rfl⟩:=hcut
     have hn4:n≤4:=by have:=QH c; rw [HP.out.1] at this; exact this
     have hlen:((ze s).drop i).length=s.size-i:=by rw [List.length_drop,zg]
     have HLN:=Lib.hid hlen
     clear hlen HCC
     by_cases c0:n=0
     · subst c0
       have HE:=Lib.hid (HU.out.trans (Zi HG.out HP.out.1))
       clear HU HG HP HLN
       go_wp2
       go_ret
       exact ⟨by rw [HE.out]; rfl,rfl⟩
     · have t0:((n:Int)==0)=false:=by rw [beq_eq_false_iff_ne]; omega
       by_cases c1:s.size<i+n
       · have HE:=Lib.hid (HU.out.trans (VM HG.out HP.out.1 (by rw [HLN.out]; omega)))
         clear HU HG HP HLN
         go_wp2
         go_ret
         exact ⟨by rw [HE.out]; rfl,rfl⟩
       · have hn1:1≤n:=by omega
         go_wp2
         go_loopg [6,7,8] (n-1) (fun g s6 s7 t wr => ∃ k lo hi:Nat,s6 = .int .i64 (lo:Nat)∧s7 = .int .i64 (hi:Nat)∧t = .int .i64 (k:Nat)∧1≤k∧k≤n∧g=n-k∧Hid ((k=1→2≤n→lo=a∧hi=b)∧(k≠1→lo=128∧hi=191))∧Hid (∀ j x,1≤j→j<k→((ze s).drop i)[j]? =some x→(if j=1 then a else 128)≤x∧x≤(if j=1 then b else 191))∧w=wr)
         case atStart=>exact ⟨1,lo,hi,rfl,rfl,rfl,Nat.le_refl _,hn1,rfl,Lib.hid ⟨fun _ h=>HP.out.2 h,fun h=>absurd rfl h⟩,Lib.hid (fun j x h1 h2=>by omega),rfl⟩
         case round =>
          obtain ⟨k,lo',hi',rfl,rfl,rfl,hk1,hkn,rfl,HQ,HA,rfl⟩:=hrel
          by_cases ck:k<n
          · have hik:i+k<s.size:=by omega
            have hbl:s[i+k].toNat<256:=s[i+k].toNat_lt
            have HGK:Hid (((ze s).drop i)[k]? =some s[i+k].toNat):=Lib.hid (by rw [List.getElem?_drop]; exact bytesOf_get? s (i+k) hik)
            have hab:Hid (lo'=(if k=1 then a else 128)∧hi'=(if k=1 then b else 191)):=Lib.hid (by
             by_cases e:k=1
             · rw [if_pos e,if_pos e]; exact HQ.out.1 e (by omega)
             · rw [if_neg e,if_neg e]; exact HQ.out.2 e)
            by_cases cb:lo'≤s[i+k].toNat∧s[i+k].toNat≤hi'
            · have t5:decide (s[i+k].toNat<lo')=false:=decide_eq_false (by omega)
              have t6:decide (hi'<s[i+k].toNat)=false:=decide_eq_false (by omega)
              have HA2:Hid (∀ j x,1≤j→j<k+1→((ze s).drop i)[j]? =some x→(if j=1 then a else 128)≤x∧x≤(if j=1 then b else 191)):=Lib.hid (fun j x h1 h2 h3=>by
               by_cases e:j=k
               · subst e; rw [HGK.out] at h3; simp only [Option.some.injEq] at h3; subst h3; rw [← hab.out.1,← hab.out.2]; exact cb
               · exact HA.out j x h1 (by omega) h3)
              clear HA HGK cb hab HQ
              go_wp2
              go_roundg (n-(k+1))
              all_goals first
               | omega
               | exact ⟨k+1,128,191,rfl,rfl,by go_num,by omega,by omega,rfl,Lib.hid ⟨fun h=>by omega,fun _=>⟨rfl,rfl⟩⟩,HA2,rfl⟩
            · have HE:=Lib.hid (HU.out.trans (JR HG.out HP.out.1 (i:=k) (by omega) (by omega) HGK.out (by rw [← hab.out.1,← hab.out.2]; exact cb)))
              clear HA HGK HU HG HP hab HQ
              by_cases cl:s[i+k].toNat<lo'
              · have t5:decide (s[i+k].toNat<lo')=true:=decide_eq_true cl
                clear cb
                go_wp2
                go_ret
                exact ⟨by rw [HE.out]; rfl,rfl⟩
              · have t5:decide (s[i+k].toNat<lo')=false:=decide_eq_false cl
                have t6:decide (hi'<s[i+k].toNat)=true:=decide_eq_true (by omega)
                clear cb
                go_wp2
                go_ret
                exact ⟨by rw [HE.out]; rfl,rfl⟩
          · have HE:=Lib.hid (HU.out.trans (Yn HG.out HP.out.1 hn1 (by rw [HLN.out]; omega) (fun j x h1 h2 h3=>HA.out j x h1 (by omega) h3)))
            rw [List.drop_drop] at HE
            clear HA HU HG HP HQ HLN
            go_wp2
            go_roundg (s.size-(i+n))
            all_goals first
             | omega
             | exact ⟨i+n,by omega,by go_num,rfl,HE,rfl⟩
  · have hlen:=zg s
    have HE:Hid (jp (ze s)=true):=Lib.hid (by rw [HU.out,List.drop_of_length_le (by omega)]; rfl)
    clear HU hlen
    go_wp2
    go_ret
    exact ⟨by rw [HE.out]; rfl,rfl⟩
end Go.Proofs.YtigjingielnaoaaGreatDoor
namespace Go.Proofs.YtigjingielnaoaaGreatDoor
open Go.RowKit
set_option maxRecDepth 100000 in
set_option maxHeartbeats 4000000 in
theorem zaC (s:ByteArray) (w:World) (hs:s.size≤1100000):Calls Tryz.prog 69 #[.string s] w fun e w'=>e = .returned (.bool (yh (ze s)))∧w=w':=by
 go_enter Tryz.func69,Tryz.ntmps69
 go_wp2
 go_loopg [3] s.size (fun g t wr => ∃ k:Nat,k≤s.size∧t = .int .i64 (k:Nat)∧g=s.size-k∧Hid (∀ i c:Nat,i<k→(ze s)[i]? =some c→vP c=false)∧w=wr)
 case atStart=>exact ⟨0,Nat.zero_le _,rfl,rfl,Lib.hid (fun i c h=>by omega),rfl⟩
 case round =>
  obtain ⟨k,hk,rfl,rfl,HA,rfl⟩:=hrel
  by_cases hc:k<s.size
  · have HG:=Lib.hid (bytesOf_get? s k hc)
    cases hb:vP s[k].toNat with
    | true =>
      have HE:=Lib.hid (Zl HG.out hb)
      unfold vP at hb
      have HB:=Lib.hid hb
      clear hb HA HG
      have fin : ∀ b:Bool,b=false→Ending.returned (.bool b) = .returned (.bool (yh (ze s))):=fun b h=>by rw [h,HE.out]
      have FIN:=Lib.hid fin
      clear fin
      by_cases c1:s[k].toNat<32
      · have t1:decide ((s[k].toNat:Int)<32)=true:=decide_eq_true (by omega)
        go_wp2
        go_ret
        exact ⟨FIN.out _ rfl,rfl⟩
      · have t1:decide ((s[k].toNat:Int)<32)=false:=decide_eq_false (by omega)
        by_cases c2:s[k].toNat=127
        · have t2:((s[k].toNat:Int)==127)=true:=by rw [beq_iff_eq]; omega
          clear c1 c2
          go_wp2
          go_ret
          exact ⟨FIN.out _ rfl,rfl⟩
        · have t2:((s[k].toNat:Int)==127)=false:=by rw [beq_eq_false_iff_ne]; omega
          by_cases c3:s[k].toNat=47
          · have t3:((s[k].toNat:Int)==47)=true:=by rw [beq_iff_eq]; omega
            clear c1 c2 c3
            go_wp2
            go_ret
            exact ⟨FIN.out _ rfl,rfl⟩
          · have t3:((s[k].toNat:Int)==47)=false:=by rw [beq_eq_false_iff_ne]; omega
            by_cases c4:s[k].toNat=92
            · have t4:((s[k].toNat:Int)==92)=true:=by rw [beq_iff_eq]; omega
              clear c1 c2 c3 c4
              go_wp2
              go_ret
              exact ⟨FIN.out _ rfl,rfl⟩
            · have t4:((s[k].toNat:Int)==92)=false:=by rw [beq_eq_false_iff_ne]; omega
              have t5:((s[k].toNat:Int)==58)=true:=by
               have:=HB.out
               simp [c1,c2,c3,c4] at this
               rw [beq_iff_eq]; omega
              clear c1 c2 c3 c4
              go_wp2
              go_ret
              exact ⟨FIN.out _ rfl,rfl⟩
    | false =>
      have HA2:Hid (∀ i c:Nat,i<k+1→(ze s)[i]? =some c→vP c=false):=Lib.hid (fun i c h1 h2=>by
       by_cases e:i=k
       · subst e; rw [HG.out] at h2; simp at h2; subst h2; exact hb
       · exact HA.out i c (by omega) h2)
      unfold vP at hb
      simp only [Bool.or_eq_false_iff,decide_eq_false_iff_not] at hb
      obtain ⟨⟨⟨⟨c1,c2⟩,c3⟩,c4⟩,c5⟩:=hb
      have t1:decide ((s[k].toNat:Int)<32)=false:=decide_eq_false (by omega)
      have t2:((s[k].toNat:Int)==127)=false:=by rw [beq_eq_false_iff_ne]; omega
      have t3:((s[k].toNat:Int)==47)=false:=by rw [beq_eq_false_iff_ne]; omega
      have t4:((s[k].toNat:Int)==92)=false:=by rw [beq_eq_false_iff_ne]; omega
      have t5:((s[k].toNat:Int)==58)=false:=by rw [beq_eq_false_iff_ne]; omega
      clear c1 c2 c3 c4 c5 HA HG
      go_wp2
      go_roundg (s.size-(k+1))
      all_goals first
       | omega
       | exact ⟨k+1,by omega,by go_num,rfl,HA2,rfl⟩
  · have hlen:=zg s
    have HE:=Lib.hid (Xo (l:=ze s) (fun i c h=>HA.out i c (by have:=(List.getElem?_eq_some_iff.1 h).1; omega) h))
    rw [hlen] at HE
    obtain rfl:k=s.size:=by omega
    have HL:=Lib.hid (fun w=>zb7 s w hs)
    have HD1:=Lib.hid (zcX s)
    have HD2:=Lib.hid (WO s)
    clear hlen HA hc hk
    by_cases c1:1≤s.size
    · by_cases c2:s.size≤60
      · by_cases c3:ze s=[46]
        · have t3:(s.toList==[46])=true:=HD1.out.trans (decide_eq_true c3)
          have HZ:Hid (yh (ze s)=false):=Lib.hid (by rw [HE.out]; simp [c3])
          clear c3
          go_wp2
          go_ret
          exact ⟨by rw [HZ.out]; rfl,rfl⟩
        · have t3:(s.toList==[46])=false:=HD1.out.trans (decide_eq_false c3)
          by_cases c4:ze s=[46,46]
          · have t4:(s.toList==[46,46])=true:=HD2.out.trans (decide_eq_true c4)
            have HZ:Hid (yh (ze s)=false):=Lib.hid (by rw [HE.out]; simp [c4])
            clear c3 c4
            go_wp2
            go_ret
            exact ⟨by rw [HZ.out]; rfl,rfl⟩
          · have t4:(s.toList==[46,46])=false:=HD2.out.trans (decide_eq_false c4)
            have HZ:Hid (yh (ze s)=jp (ze s)):=Lib.hid (by rw [HE.out,decide_eq_true c1,decide_eq_true c2,decide_eq_true c3,decide_eq_true c4]; simp)
            clear c3 c4
            go_wp2_with (go_at_call 108; refine (HL.out _).mono ?_; rintro e w' ⟨rfl,rfl⟩)
            go_ret
            exact ⟨by rw [HZ.out]; rfl,rfl⟩
      · have HZ:Hid (yh (ze s)=false):=Lib.hid (by rw [HE.out,decide_eq_false c2]; simp)
        go_wp2
        go_ret
        exact ⟨by rw [HZ.out]; rfl,rfl⟩
    · have HZ:Hid (yh (ze s)=false):=Lib.hid (by rw [HE.out,decide_eq_false c1]; simp)
      go_wp2
      go_ret
      exact ⟨by rw [HZ.out]; rfl,rfl⟩
end Go.Proofs.YtigjingielnaoaaGreatDoor
