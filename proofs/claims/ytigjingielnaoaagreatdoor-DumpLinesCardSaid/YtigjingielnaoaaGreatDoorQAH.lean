/- Package strings' Builder in a block of any type (what String has frozen or not): walks. -/
import Derived.Lib.FrozenHead
import Derived.Test.YtigjingielnaoaaGreatDoorRows
import Derived.WalkKit
import Derived.Handy
import Derived.Lib.MinMax
import Derived.IntWalk
import Derived.BigQuiet
import Derived.StillTailTactics
import Derived.Deep.QuietTactic
import Derived.Deep.RegionHeld3
import Derived.Deep.RegionLaw
import Derived.Deep.DeepCutAuto
import Derived.Deep.DeepFit
import Derived.Deep.LoopGhost
import Derived.Deep.Light
import Derived.Deep.CutBlock
import Derived.Laws.BitsAllLaws
import Derived.Outline
import Derived.WalkSpells
import Derived.Lib.Hide
import Derived.Test.YtigjingielnaoaaGreatDoorQAC
import Derived.Test.YtigjingielnaoaaGreatDoorQAA
import Derived.Deep.OwnRows
import Derived.Test.YtigjingielnaoaaGreatDoorQAG
set_option linter.unusedVariables false
set_option linter.unusedSimpArgs false
set_option linter.unusedSectionVars false
namespace Go.Proofs.YtigjingielnaoaaGreatDoor
open Go.RowKit
theorem zeb:(Tryz.prog.info? 5).map (fun i=>(i.zero,i.size,i.bytes))=some (some (.int .u8 0),1,1):=by kernel_rfl
theorem zaa:(Tryz.prog.info? 109).map (·.size)=some 2:=by kernel_rfl
theorem zcr:Tryz.prog.cellsOf 5=1:=by kernel_rfl
def kq (T:TypeId):Prop:=liesAt Tryz.prog Tryz.prog.depth T (2/Tryz.prog.cellsOf T) 0 109 1=true∧T≠5
def Bld (T:TypeId) (B b:Nat) (l:List Nat) (w:World):Prop:=Lib.IsBuilderF T 5 B b (u8s l) w
theorem Bld.fresh (T:TypeId) (w:World):Bld T w.heap.size w.heap.size [] (w.alloc (.cells #[.pointer none,.slice none 0 0] T)) := .of (Lib.fresh_isBuilder T _ w)
theorem Bld.drew {T:TypeId} {B b:Nat} {l:List Nat} {w:World} (h:Bld T B b l w):Bld T B b l w.drew:=h
theorem Bld.lt {T:TypeId} {B b:Nat} {l:List Nat} {w:World} (h:Bld T B b l w):b<w.heap.size:=h.elim (fun x=>x.lt) (fun x=>x.lt)
theorem zcl {T:TypeId} {B b:Nat} {p:Value} {bs:List Value} {w w':World} (h:Lib.BuilderAtF T 5 B b p bs w) (hu:Upd [] w w'):Lib.BuilderAtF T 5 B b p bs w':=by
 have hlt:=h.lt
 obtain ⟨hB,v,hbk,hown,hne⟩:=h
 refine ⟨hB,v,(hu.block b hlt (by simp)).trans hbk,⟨hown.1,?_⟩,hne⟩
 rcases hown.2 with ⟨hv,hz⟩ | ⟨g,cap,cur,fz,hv,hBg,hg,r⟩
 · exact .inl ⟨hv,hz⟩
 · exact .inr ⟨g,cap,cur,fz,hv,hBg,(hu.block g (Array.getElem?_eq_some_iff.1 hg).1 (by simp)).trans hg,r⟩
theorem Bld.upd {T:TypeId} {B b:Nat} {l:List Nat} {w w':World} (h:Bld T B b l w) (hu:Upd [] w w'):Bld T B b l w':=h.elim (fun x => .inl (zcl x hu)) (fun x => .inr (zcl x hu))
def Kept (b:Nat) (w w':World):Prop := ∀ k cs T,k≠b→T≠5→Blk w k cs T→Blk w' k cs T
theorem Kept.refl (b:Nat) (w:World):Kept b w w:=fun _ _ _ _ _ h=>h
theorem Kept.trans {b:Nat} {u v w:World} (h:Kept b u v) (k:Kept b v w):Kept b u w:=fun j cs T h1 h2 h3=>k j cs T h1 h2 (h j cs T h1 h2 h3)
theorem Upd.kept {b:Nat} {w w':World} (h:Upd [] w w'):Kept b w w':=fun j cs T h1 h2 h3=>h3.upd h (by simp)
theorem YU {b o:Nat} {w:World} (v:Value):Kept b w (w.setCell ⟨b,o,none⟩ v):=fun j cs T h1 h2 h3=>h3.setFar v h1
set_option maxRecDepth 100000 in
theorem kJ {T:TypeId} (hT:kq T) (b:Nat) (w:World) (h0:w.cell? ⟨b,0,none⟩=some (.pointer none)) (hsh:w.shape? b=some (T,2)) (hfz:w.frozen? ⟨b,0,none⟩=false) :
 Calls Tryz.prog 112 #[.pointer (some ⟨b,0,none⟩)] w fun e w'=>e = .returned (.tuple #[])∧w'=w.setCell ⟨b,0,none⟩ (.pointer (some ⟨b,0,none⟩)):=by
 obtain ⟨j,hj,hjs⟩:=Option.map_eq_some_iff.1 zaa
 go_enter Tryz.func112,Tryz.ntmps112
 go_wp2
 rw [Lib.run_to_unsafe w ⟨b,0,none⟩ Tryz.underlying107 Tryz.underlying187 hj (by rw [hjs]; decide) hsh (Nat.zero_lt_succ 1)]
 simp only [Result.andThen]
 rw [Oper.upon_value]
 go_wp2
 rw [run_callFunc_extern Tryz.func153 (by kernel_rfl) (by kernel_rfl) (by kernel_rfl) (e:=Extern.AbiNoEscape.same) (by kernel_rfl)]
 rw [Lib.run_noEscape]
 simp only [Result.andThen]
 rw [Oper.upon_value]
 go_wp2
 rw [Lib.run_from_unsafe w ⟨b,0,none⟩ Tryz.underlying187 Tryz.underlying107 hj hsh hT.1]
 simp only [Result.andThen]
 rw [Oper.upon_value]
 go_wp2
 go_end0
 exact ⟨rfl,rfl⟩
set_option maxRecDepth 100000 in
theorem JZ {T:TypeId} (hT:kq T) (B b:Nat) (l:List Nat) (w:World) (h:Bld T B b l w) :
 Calls Tryz.prog 112 #[.pointer (some ⟨b,0,none⟩)] w fun e w'=>e = .returned (.tuple #[])∧Lib.BuilderAtF T 5 B b (.pointer (some ⟨b,0,none⟩)) (u8s l) w'∧Below B w w'∧Kept b w w':=by
 rcases h with h | h
 · refine (kJ hT b w h.cell0 h.shape h.frozen0).mono ?_
   rintro e w' ⟨rfl,rfl⟩
   exact ⟨rfl,h.used _,(Below.refl _ _).setCell (p:=⟨b,0,none⟩) h.1 _,YU _⟩
 · obtain ⟨j,hj,hjs⟩:=Option.map_eq_some_iff.1 zaa
   have h0:=h.cell0
   have hF:=Lib.hid h
   have hNE:=fun w=>Lib.run_neq_ptr_same (P:=Tryz.prog) w (tp:=107) (te:=109) ⟨b,0,none⟩ Tryz.underlying107 hj
   clear h
   go_enter Tryz.func112,Tryz.ntmps112
   go_wp2
   go_end0
   exact ⟨rfl,hF.out,Below.refl _ _,Kept.refl _ _⟩
theorem zcf {B:Nat} {w:World} {v:Value} {n:Nat} {xs:List Value} (h:w.ownsRowF B 5 1 v n xs) {k:Nat} {cs:List Value} {T:TypeId} (hk:Blk w k cs T) (hT:T≠5):v.ownBlock≠some k:=Lib.ownBlock_neF h hk hT
set_option maxRecDepth 100000 in
theorem jC {T:TypeId} (hT:kq T) (B b:Nat) (l:List Nat) (s:ByteArray) (w:World) (h:Bld T B b l w) (hlen:l.length+s.size≤1000000000) (hBw:B≤w.heap.size) :
 Calls Tryz.prog 75 #[.pointer (some ⟨b,0,none⟩),.string s] w fun e w'=>e = .returned (.tuple #[.int .i64 s.size,.nilIface])∧Bld T B b (l++ze s) w'∧Below B w w'∧Kept b w w':=by
 obtain ⟨i0,hi,hz0,hz1,hz2⟩:=info_parts zeb
 have HC:=Lib.hid (JZ hT B b l w h)
 clear h
 go_enter Tryz.func75,Tryz.ntmps75
 go_wp2_with fail
 refine HC.out.mono ?_
 rintro e w1 ⟨rfl,h1,hb1,hk1⟩
 obtain ⟨hB,v,hbk,hown,hne⟩:=h1
 have hlt:b<w1.heap.size:=Lib.BuilderAtF.lt ⟨hB,v,hbk,hown,hne⟩
 have c0:w1.cell? ⟨b,0,none⟩=some (.pointer (some ⟨b,0,none⟩)):=by rw [Lib.cell_of_heap hbk]; rfl
 have c1:w1.cell? ⟨b,1,none⟩=some v:=by rw [Lib.cell_of_heap hbk]; rfl
 have HBK:=Lib.hid hbk
 have hul:(u8s l).length=l.length:=qW l
 clear hbk
 go_wp2_with (at_builtin; refine Lib.wpList_append_own_stringF _ rfl _ _ 87 9 rfl B 5 i0 Tryz.underlying87 Tryz.underlying9 hi hz0 hz1 hz2 _ _ _ rfl hown s rfl ?c3 ?c4 ?c5 ?_)
 case c3=>unfold maxLen; omega
 case c4=>omega
 case c5=>have:=hb1.size; omega
 intro v' w2 hown' hgrow _
 have hb2:w2.heap[b]? =some (.cells #[.pointer (some ⟨b,0,none⟩),v] T (0,0)):=by
  rw [hgrow.block b hlt (fun e=>hne e.symm)]
  exact HBK.out
 have d1:w2.cell? ⟨b,1,none⟩=some v:=by rw [Lib.cell_of_heap hb2]; rfl
 have f1:w2.frozen? ⟨b,1,none⟩=false:=Lib.frozen_of_heap hb2 1
 obtain ⟨ao,n',cap,rfl⟩ : ∃ ao n' cap,v' = .slice ao n' cap:=by
  rcases hown'.2 with ⟨hv,_⟩ | ⟨g,cap,cur,fz,hv,_⟩
  · exact ⟨_,_,_,hv⟩
  · exact ⟨_,_,_,hv⟩
 have HFIN:Hid (Bld T B b (l++ze s) (w2.setCell ⟨b,1,none⟩ (.slice ao n' cap))∧Below B w (w2.setCell ⟨b,1,none⟩ (.slice ao n' cap))∧Kept b w (w2.setCell ⟨b,1,none⟩ (.slice ao n' cap))):=Lib.hid ⟨.inr (by
  rw [Jw] at hown'
  have e:u8s l++u8s (ze s)=u8s (l++ze s):=(QZ _ _).symm
  rw [e] at hown'
  exact Lib.BuilderAtF.put (T:=T) (e:=5) hB hb2 (bs':=u8s (l++ze s)) (by
   have e2:(u8s (l++ze s)).length=l.length+s.size:=by rw [qW,List.length_append,zg]
   rw [e2]; exact hown') hT.2),(hb1.grown hgrow (by have:=hb1.size; omega) (fun k hk=>(hown.lt k hk).1)).setCell (p:=⟨b,1,none⟩) hB _,
   (hk1.trans (fun j cs T' h1 h2 h3=>h3.grown hgrow (zcf hown h3 h2))).trans (YU _)⟩
 clear hown' hgrow hb2 hown hb1 hk1
 go_wp2
 go_ret2
 exact ⟨rfl,HFIN.out⟩
theorem qK {T:TypeId} (hT:kq T) (B b:Nat) (l:List Nat) (s:ByteArray) (w:World) (h:Bld T B b l w) (hlen:l.length+s.size≤1000000000) (hBw:B≤w.heap.size) :
 Calls Tryz.prog 75 #[.pointer (some ⟨b,0,none⟩),.string s] w fun e w'=>e = .returned (.tuple #[.int .i64 s.size,.nilIface])∧Bld T B b (l++ze s) w'∧Below B w w' :=
 (jC hT B b l s w h hlen hBw).mono fun _ _ h=>⟨h.1,h.2.1,h.2.2.1⟩
theorem strOf_eq' (l:List Nat) (h : ∀ x∈l,x<256):u8s l=Lib.byteCells (l.map UInt8.ofNat):=by
 unfold u8s Lib.byteCells
 rw [List.map_map]
 refine List.map_congr_left fun x hx=>?_
 have:=h x hx
 simp only [Function.comp,UInt8.toNat_ofNat']
 rw [Nat.mod_eq_of_lt (by omega)]
set_option maxRecDepth 100000 in
theorem vL {T:TypeId} (B b:Nat) (l:List Nat) (w:World) (h:Bld T B b l w) (h0:l≠[]) (hb : ∀ x∈l,x<256) :
 Calls Tryz.prog 76 #[.pointer (some ⟨b,0,none⟩)] w fun e w'=>e = .returned (.string (zf l))∧Bld T B b l w'∧Below B w w'∧Kept b w w':=by
 obtain ⟨p,hp,hAt⟩ : ∃ p,(p = .pointer none∨p = .pointer (some ⟨b,0,none⟩))∧Lib.BuilderAtF T 5 B b p (u8s l) w:=by
  rcases h with h | h
  · exact ⟨_,.inl rfl,h⟩
  · exact ⟨_,.inr rfl,h⟩
 have HA:=Lib.hid hAt
 obtain ⟨hB,v,hbk,hown,hne⟩:=hAt
 have hl0:l.length≠0:=by simpa using h0
 have hlu:=qW l
 rw [hlu] at hown
 obtain ⟨g,cap,cur,fz,rfl,hbg,hg,hfz,hnc,hcm,hcs,htake⟩ : ∃ g cap cur fz,v = .slice (some ⟨g,0,none⟩) l.length cap∧B≤g∧w.heap[g]? =some (.cells cur 5 fz)∧fz.2≤l.length*1∧l.length≤cap∧cap≤maxLen∧cur.size=cap*1∧cur.toList.take (l.length*1)=u8s l:=by
  rcases hown.2 with ⟨_,hz⟩ | ⟨g,cap,cur,fz,hv,r⟩
  · exact absurd hz hl0
  · exact ⟨g,cap,cur,fz,hv,r⟩
 have c1:w.drew.cell? ⟨b,1,none⟩=some (.slice (some ⟨g,0,none⟩) l.length cap):=by
  have:w.drew.heap[b]? =some (.cells #[p,.slice (some ⟨g,0,none⟩) l.length cap] T (0,0)):=hbk
  rw [Lib.cell_of_heap this]; rfl
 have hSD:(Builtin.unsafeSliceData_ #[87] 152 #[.slice (some ⟨g,0,none⟩) l.length cap]).run Tryz.prog w.drew = .ok (.pointer (some ⟨g,0,none⟩)) w.drew :=
  Lib.run_unsafeSliceData_row _ _ _ _ _ _ (by omega)
 have hml:(l.map UInt8.ofNat).length=l.length:=by simp
 have hUS:(Builtin.unsafeString_ #[152,3] 9 #[.pointer (some ⟨g,0,none⟩),.int .i64 l.length]).run Tryz.prog w.drew = .ok (.string (zf l)) (w.drew.freeze ⟨g,0,none⟩ l.length):=by
  have:=Lib.run_unsafeString_row (P:=Tryz.prog) w.drew 152 3 9 5 Tryz.underlying152 zcr g cur.size (by have hg':w.drew.heap[g]? =some (.cells cur 5 fz):=hg; simp [World.shape?,hg']) (l.map UInt8.ofNat) (by simpa using h0) (by rw [hml]; omega) (by rw [hml]; unfold maxLen at hcm; omega) (by
   intro j x hx
   have:=hown.cells (g:=g) rfl j (.int .u8 x.toNat) (by
    rw [strOf_eq' l hb]; unfold Lib.byteCells; rw [List.getElem?_map,hx]; rfl)
   exact this)
  rw [hml] at this
  exact this
 clear hml
 have HFIN:Hid (Bld T B b l (w.drew.freeze ⟨g,0,none⟩ l.length)∧Below B w (w.drew.freeze ⟨g,0,none⟩ l.length)∧Kept b w (w.drew.freeze ⟨g,0,none⟩ l.length)):=Lib.hid ⟨by
  have hF:=(show Lib.BuilderAtF T 5 B b p (u8s l) w.drew from HA.out).froze (g:=g) (cap:=cap) (by rw [hlu]; exact c1)
  rw [hlu] at hF
  rcases hp with rfl | rfl
  · exact .inl hF
  · exact .inr hF,Lib.below_freeze (Below.drew (Below.refl B w)) (p:=⟨g,0,none⟩) hbg _,fun k cs T' h1 h2 h3=>by
  have hk:k≠g:=by
   rintro rfl
   unfold Blk at h3
   rw [hg] at h3
   simp only [Option.some.injEq,Obj.cells.injEq] at h3
   exact h2 h3.2.1.symm
  unfold Blk World.freeze
  split
  · exact h3
  · simp only [Array.getElem?_modify]
    rw [if_neg (Ne.symm hk)]
    exact h3⟩
 have HTK:=Lib.hid htake
 clear htake hown hg hbk hne h HA
 go_enter Tryz.func76,Tryz.ntmps76
 go_wp2
 go_region
 all_goals (go_wp2; go_ret; exact ⟨rfl,HFIN.out⟩)
theorem YK {T:TypeId} (B b:Nat) (l:List Nat) (w:World) (h:Bld T B b l w) (h0:l≠[]) (hb : ∀ x∈l,x<256) :
 Calls Tryz.prog 76 #[.pointer (some ⟨b,0,none⟩)] w fun e w'=>e = .returned (.string (zf l))∧Below B w w' :=
 (vL B b l w h h0 hb).mono fun _ _ h=>⟨h.1,h.2.2.1⟩
end Go.Proofs.YtigjingielnaoaaGreatDoor
namespace Go.Proofs.YtigjingielnaoaaGreatDoor
open Go.RowKit
theorem infoByte:(Tryz.prog.info? 5).map (fun i=>(i.zero,i.size,i.bytes))=some (some (.int .u8 0),1,1):=by kernel_rfl
theorem Blk.conv {P:Program} {w:World} {b n c:Nat} {l:List Nat} {src dst e:TypeId} (h:Blk w b (u8s l) e) (hl:l.length=n) (hs:P.underlying src=some (.slice e)) (he:P.underlying e=some (.int .u8)) (hd:P.underlying dst=some .string) :
 (convert src dst (.slice (some ⟨b,0,none⟩) n c)).run P w = .ok (.string (zf l)) w:=by
 have hr:=run_convert_bytes_arg w src e hs he b 0 n c (l.map fun x:Nat=>(x:Int)) (by simpa using hl) (fun i hi=>by
  have hil:i<l.length:=by omega
  rw [Nat.zero_add]
  refine h.cell i ?_
  simp [u8s,hil]) dst hd
 rw [hr]
 congr 2
 simp only [strOfNums,zf,List.map_map]
 congr 2
theorem zea (i:Nat):(2:Nat)^(8*i)=256^i:=by rw [Nat.pow_mul]
theorem zeK (a b:Nat) (ha:a<18446744073709551616) (hb:b<18446744073709551616):bits .or .u64 (a:Int) (b:Int)=((a ||| b:Nat):Int):=by
 show IntKind.u64.wrap ((BitVec.ofInt 64 (a:Int) ||| BitVec.ofInt 64 (b:Int)).toNat:Int)=_
 rw [BitVec.toNat_or,yH 64 a ha,yH 64 b hb]
 exact IntWalk.u64_in _ (by have:=Nat.or_lt_two_pow (n:=64) ha hb; omega)
theorem zev (m x i:Nat) (hm:m<256^i) (hx:x<256) (hi:i≤7):bits BinOp.or IntKind.u64 (m:Int) (IntKind.u64.wrap (IntKind.u64.wrap (x:Int)*2^(8*i)))=((m+256^i*x:Nat):Int):=by
 have hp:256^i≤256^7:=Nat.pow_le_pow_right (by omega) hi
 have h1:IntKind.u64.wrap (x:Int)=(x:Int):=IntWalk.u64_in _ (by omega)
 have hb:256^i*x≤256^7*255:=Nat.mul_le_mul hp (by omega)
 have e2:(x:Int)*2^(8*i)=((256^i*x:Nat):Int):=by rw [← zea]; push_cast; exact Int.mul_comm _ _
 rw [h1,e2,IntWalk.u64_in _ (by omega),zeK _ _ (by omega) (by omega),← zea,Nat.or_comm,← Nat.two_pow_add_eq_or_of_lt (by rw [zea]; exact hm),Nat.add_comm]
theorem Zv (l:List Nat) (i x:Nat):(u8s l).set i (.int .u8 (x:Nat))=u8s (l.set i x):=by simp [u8s]
theorem zbc (n k i:Nat) (h:i<k):((leP n i++List.replicate (k-i) 0).set i (n/256^i%256))=leP n (i+1)++List.replicate (k-(i+1)) 0:=by
 rw [show k-i=(k-(i+1))+1 by omega,List.replicate_succ,List.set_append_right _ _ (by rw [xa]; omega),xa,Nat.sub_self,List.set_cons_zero,Ql,List.append_assoc]; rfl
set_option maxRecDepth 100000 in
set_option maxHeartbeats 1600000 in
theorem zee (n k:Nat) (w:World) (hn:n<18446744073709551616) (hk:k≤8):Calls Tryz.prog 177 #[.int .u64 (n:Nat),.int .i64 (k:Nat)] w fun e w'=>e = .returned (.string (zf (leP n k)))∧Upd [] w w':=by
 have hmk:=fun w=>run_make_row' (P:=Tryz.prog) 87 5 (.int .u8 0) 1 Tryz.underlying87 infoByte rfl .i64 .i64 k (by omega) (by omega) (w:=w)
 have hmx:max (0:Int) (min (k:Int) 8)=(k:Int):=by omega
 rw [← hmx] at hmk
 have hk8:(k:Int)≤8:=by omega
 have hk0:(0:Int)≤(k:Int):=by omega
 have HX:=Lib.hid hmx
 clear hmx
 go_enter Tryz.func177,Tryz.ntmps177
 go_wp2
 have hB0:Blk (w.alloc (.cells (madeCells #[.int .u8 0] k) 5)) w.heap.size (u8s (leP n 0++List.replicate (k-0) 0)) 5:=by
  have:=heap_alloc_new w (.cells (madeCells #[.int .u8 0] k) 5)
  unfold Blk
  rw [this]
  congr 2
  apply Array.ext
  · simp [madeCells,u8s,leP]
  · intro j h1 h2
    simp [madeCells,u8s,leP,Nat.mod_one]
 have hU0:Upd [] w (w.alloc (.cells (madeCells #[.int .u8 0] k) 5)):=(Upd.refl [] w).alloc _
 generalize w.alloc (.cells (madeCells #[.int .u8 0] k) 5)=w0 at *
 obtain ⟨b0,hb0⟩ : ∃ b0,w.heap.size=b0:=⟨_,rfl⟩
 rw [hb0] at hB0 ⊢
 have HB:=Lib.hid (show w.heap.size≤b0 by omega)
 clear hb0 hmk
 go_loopg [13] k (fun g s13 wr => ∃ i,i≤k∧g=k-i∧s13 = .int .i64 (i:Nat)∧Blk wr b0 (u8s (leP n i++List.replicate (k-i) 0)) 5∧Upd [] w wr)
 case atStart=>exact ⟨0,by omega,rfl,rfl,hB0,hU0⟩
 case round =>
  obtain ⟨i,hi,rfl,rfl,hB,hU⟩:=hrel
  clear hB0 hU0
  by_cases hc9:i<k
  · have hcz:(i:Int)<(k:Int):=by omega
    have HST:=Lib.hid (zbc n k i hc9)
    have hlen:(leP n i++List.replicate (k-i) 0).length=k:=by rw [List.length_append,xa,List.length_replicate]; omega
    obtain ⟨q,hq⟩ : ∃ q,q=n/256^i%256:=⟨_,rfl⟩
    rw [← hq] at HST
    have hdv:(n:Int)/2^(8*i)%256=(q:Int):=by rw [hq,← zea]; simp
    clear hq
    generalize leP n i++List.replicate (k-i) 0=L at *
    have c1:=hB.cell i (v := .int .u8 ((L[i]'(by omega):Nat):Int)) (by rw [u8s]; simp [hlen,hc9])
    have f1:=hB.frz i
    generalize L[i]'(by omega)=old at *
    have HLN:=Lib.hid hlen
    clear hlen
    go_wp2
    go_roundg (k-(i+1))
    · exact ⟨i+1,by omega,rfl,by first | rfl | go_num,by rw [← HST.out,← Zv]; exact hB.set i _,hU.setCell (.inr HB.out) _⟩
    · omega
  · have hcz : ¬ (i:Int)<(k:Int):=by omega
    have h9:i=k:=by omega
    subst h9
    rw [Nat.sub_self,List.replicate_zero,List.append_nil] at hB
    have hcv2:=hB.conv (P:=Tryz.prog) (c:=i) (xa i n) Tryz.underlying87 Tryz.underlying5 Tryz.underlying9
    go_wp2
    go_ret
    exact ⟨rfl,hU⟩
set_option maxRecDepth 100000 in
set_option maxHeartbeats 1600000 in
theorem QW (n k:Nat) (w:World) (hn:n<18446744073709551616) (hk:k≤8):Calls Tryz.prog 48 #[.int .u64 (n:Nat),.int .i64 (k:Nat)] w fun e w'=>e = .returned (.string (zf (leP n k)))∧Upd [] w w':=by
 have hk8:(k:Int)≤8:=by omega
 have hk0:(0:Int)≤(k:Int):=by omega
 go_enter Tryz.func48,Tryz.ntmps48
 go_wp2
 go_loopg [0,5,6] k (fun g s0 s5 s6 wr => ∃ i m,i≤k∧g=k-i∧s6 = .int .i64 (i:Nat)∧s0 = .int .u64 (m:Nat)∧m<18446744073709551616∧Hid (m=n/256^i)∧s5 = .string (zf (leP n i))∧Upd [] w wr)
 case atStart=>exact ⟨0,n,by omega,rfl,rfl,rfl,hn,Lib.hid (by simp),rfl,Upd.refl _ _⟩
 case round =>
  obtain ⟨i,m,hi,rfl,rfl,rfl,hm,HM,rfl,hU⟩:=hrel
  by_cases hc9:i<k
  · have hcz:(i:Int)<(k:Int):=by omega
    have hcy:(i:Int)<8:=by omega
    have HST:Hid (leP n (i+1)=leP n i++[m%256]):=Lib.hid (by rw [Ql,HM.out])
    have HD:Hid (m/256=n/256^(i+1)):=Lib.hid (by rw [HM.out,Nat.div_div_eq_div_mul,Nat.pow_succ])
    obtain ⟨q,hq⟩ : ∃ q,q=m%256:=⟨_,rfl⟩
    rw [← hq] at HST
    have z1:(m:Int)%256=(q:Int):=by omega
    have hcv:(convert 87 9 (.slice (some ⟨wr.heap.size,0,none⟩) 1 1)).run Tryz.prog (wr.alloc (.cells #[.int .u8 (q:Nat)] 5)) = .ok (.string (zf [q])) (wr.alloc (.cells #[.int .u8 (q:Nat)] 5)):=by
     exact (Blk.new wr (u8s [q]) 5).conv (P:=Tryz.prog) (n:=1) (c:=1) rfl Tryz.underlying87 Tryz.underlying5 Tryz.underlying9
    have hm2:m/256<18446744073709551616:=by omega
    have HA:=Lib.hid (xh (leP n i) [q])
    have hz1:(zf (leP n i)).size=i:=by rw [zh,xa]
    have hz2:(zf [q]).size=1:=zh _
    clear HM hq
    go_wp2
    go_roundg (k-(i+1))
    · exact ⟨i+1,m/256,by omega,rfl,by first | rfl | go_num,by simp,hm2,HD,by rw [HST.out,← HA.out],hU.alloc _⟩
    · omega
  · have hcz : ¬ (i:Int)<(k:Int):=by omega
    have h9:i=k:=by omega
    subst h9
    go_wp2
    go_ret
    exact ⟨rfl,hU⟩
def ZR (s:ByteArray) (k:Nat):Value:=if k≤s.size then .tuple #[.int .u64 (leG ((ze s).take k):Nat),.bool true] else .tuple #[.int .u64 0,.bool false]
set_option maxRecDepth 100000 in
set_option maxHeartbeats 1600000 in
theorem zdU (s:ByteArray) (k:Nat) (w:World) (hs:s.size≤1000000) (hk:k≤8):Calls Tryz.prog 130 #[.string s,.int .i64 (k:Nat)] w fun e w'=>e = .returned (ZR s k)∧Upd [] w w':=by
 have hk8:(k:Int)≤8:=by omega
 have hk0:(0:Int)≤(k:Int):=by omega
 by_cases hc:k≤s.size
 · have HV:Hid (ZR s k = .tuple #[.int .u64 (leG ((ze s).take k):Nat),.bool true]):=Lib.hid (if_pos hc)
   have hcz:(k:Int)≤(s.size:Int):=by omega
   go_enter Tryz.func130,Tryz.ntmps130
   go_wp2
   go_loopg [4,20] k (fun g s4 s20 wr => ∃ i m,i≤k∧g=k-i∧s20 = .int .i64 (i:Nat)∧s4 = .int .u64 (m:Nat)∧m<256^i∧Hid (m=leG ((ze s).take i))∧Upd [] w wr)
   case atStart=>exact ⟨0,0,by omega,rfl,rfl,rfl,by simp,Lib.hid (by simp [leG]),Upd.refl _ _⟩
   case round =>
    obtain ⟨i,m,hi,rfl,rfl,rfl,hm,HM,hU⟩:=hrel
    by_cases hc9:i<k
    · have hcz2:(i:Int)<(k:Int):=by omega
      have hcs:i<s.size:=by omega
      have hbl:s[i].toNat<256:=s[i].toNat_lt
      have HO:=Lib.hid (zev m s[i].toNat i hm hbl (by omega))
      have HO2:Hid (bits BinOp.or IntKind.u64 (m:Int) (IntKind.u64.wrap ((s[i].toNat:Int)*2^(8*i)))=((m+256^i*s[i].toNat:Nat):Int)):=Lib.hid (by
       have:=HO.out
       rwa [show IntKind.u64.wrap (s[i].toNat:Int)=(s[i].toNat:Int) from IntWalk.u64_in _ (by omega)] at this)
      have HN:Hid (m+256^i*s[i].toNat<256^(i+1)):=Lib.hid (by
       have h1:256^i*s[i].toNat≤256^i*255:=Nat.mul_le_mul_left _ (by omega)
       rw [Nat.pow_succ]; omega)
      have HG:Hid (m+256^i*s[i].toNat=leG ((ze s).take (i+1))):=Lib.hid (by
       rw [List.take_succ_eq_append_getElem (by rw [zg]; exact hcs),zdm,← HM.out,yE s i hcs,List.length_take,zg,Nat.min_eq_left (by omega)])
      have HM1:=Lib.hid hm
      clear HM hm
      go_wp2
      go_roundg (k-(i+1))
      · exact ⟨i+1,m+256^i*s[i].toNat,by omega,rfl,by first | rfl | go_num,by first | rw [HO.out] | rw [HO2.out],HN.out,HG,hU⟩
      · omega
    · have hcz : ¬ (i:Int)<(k:Int):=by omega
      have h9:i=k:=by omega
      subst h9
      go_wp2
      go_ret2
      exact ⟨by rw [HV.out,HM.out]; rfl,hU⟩
 · have HV:Hid (ZR s k = .tuple #[.int .u64 0,.bool false]):=Lib.hid (if_neg hc)
   go_enter Tryz.func130,Tryz.ntmps130
   go_wp2
   go_ret2
   exact ⟨by rw [HV.out]; rfl,Upd.refl _ _⟩
set_option maxRecDepth 100000 in
set_option maxHeartbeats 1600000 in
theorem zdg (s:ByteArray) (k:Nat) (w:World) (hs:s.size≤1000000) (hk:k≤8):Calls Tryz.prog 171 #[.string s,.int .i64 (k:Nat)] w fun e w'=>e = .returned (ZR s k)∧Upd [] w w':=by
 have hk8:(k:Int)≤8:=by omega
 have hk0:(0:Int)≤(k:Int):=by omega
 by_cases hc:k≤s.size
 · have HV:Hid (ZR s k = .tuple #[.int .u64 (leG ((ze s).take k):Nat),.bool true]):=Lib.hid (if_pos hc)
   have hcz:(k:Int)≤(s.size:Int):=by omega
   go_enter Tryz.func171,Tryz.ntmps171
   go_wp2
   go_loopg [6,7] (0+k) (fun g s6 s7 wr => ∃ i m,i≤k∧g=0+i∧s7 = .int .i64 ((i:Nat)-1)∧s6 = .int .u64 (m:Nat)∧m<256^(k-i)∧Hid (m=leG (((ze s).take k).drop i))∧Upd [] w wr)
   case atStart=>exact ⟨k,0,by omega,rfl,rfl,rfl,by simp,Lib.hid (by rw [List.drop_of_length_le (by rw [List.length_take]; omega)]; rfl),Upd.refl _ _⟩
   case round =>
    obtain ⟨i,m,hi,rfl,rfl,rfl,hm,HM,hU⟩:=hrel
    by_cases hc9:0<i
    · have hcz2:(0:Int)≤(i:Int)-1:=by omega
      obtain ⟨j,rfl⟩ : ∃ j,i=j+1:=⟨i-1,by omega⟩
      have hcs:j<s.size:=by omega
      have hbl:s[j].toNat<256:=s[j].toNat_lt
      have h7:256^(k-(j+1))≤256^7:=Nat.pow_le_pow_right (by omega) (by omega)
      have HW:Hid (IntKind.u64.wrap (IntKind.u64.wrap (256*(m:Int))+(s[j].toNat:Int))=((s[j].toNat+256*m:Nat):Int)):=Lib.hid (by
       rw [show IntKind.u64.wrap (256*(m:Int))=256*(m:Int) from IntWalk.u64_in _ (by omega),IntWalk.u64_in _ (by omega)]; omega)
      have HN:Hid (s[j].toNat+256*m<256^(k-j)):=Lib.hid (by
       rw [show k-j=(k-(j+1))+1 by omega,Nat.pow_succ]; omega)
      have HG:Hid (s[j].toNat+256*m=leG (((ze s).take k).drop j)):=Lib.hid (by
       have hl:j<((ze s).take k).length:=by rw [List.length_take,zg]; omega
       rw [List.drop_eq_getElem_cons hl,leG,← HM.out,List.getElem_take,yE s j hcs])
      clear HM hm h7
      go_wp2
      go_roundg (0+j)
      · exact ⟨j,s[j].toNat+256*m,by omega,rfl,by first | rfl | go_num,by rw [HW.out],HN.out,HG,hU⟩
      · omega
    · have hcz2 : ¬ (0:Int)≤(i:Int)-1:=by omega
      have h9:i=0:=by omega
      subst h9
      go_wp2
      go_ret2
      exact ⟨by rw [HV.out,HM.out]; rfl,hU⟩
 · have HV:Hid (ZR s k = .tuple #[.int .u64 0,.bool false]):=Lib.hid (if_neg hc)
   go_enter Tryz.func171,Tryz.ntmps171
   go_wp2
   go_ret2
   exact ⟨by rw [HV.out]; rfl,Upd.refl _ _⟩
end Go.Proofs.YtigjingielnaoaaGreatDoor
namespace Go.Proofs.YtigjingielnaoaaGreatDoor
open Go.RowKit
theorem zeX:kq 175:=⟨by kernel_rfl,by decide⟩
abbrev Wr (B b:Nat) (l:List Nat) (w:World):Prop:=Bld 175 B b l w
theorem Upd.belowB {B:Nat} {w w':World} (h:Upd [] w w') (hB:B≤w.heap.size):Below B w w':=h.below' hB (by simp)
set_option maxRecDepth 100000 in
theorem JW (B b g:Nat) (l:List Nat) (s:ByteArray) (w:World) (h:Wr B b l w) (hg:w.cell? ⟨g,0,none⟩=some (.string s)) (hlen:l.length+s.size≤1000000000) (hBw:B≤w.heap.size) :
 Calls Tryz.prog 132 #[.pointer (some ⟨b,0,none⟩),.slice (some ⟨g,0,none⟩) 1 1] w fun e w'=>e = .returned (.pointer (some ⟨b,0,none⟩))∧Wr B b (l++ze s) w'∧Below B w w'∧Kept b w w':=by
 have HW:=Lib.hid (jC zeX B b l s w h hlen hBw)
 clear h
 go_enter Tryz.func132,Tryz.ntmps132
 go_wp2
 go_loopg [11] 1 (fun gg s11 wr => ∃ i,gg=1-i∧s11 = .int .i64 (i:Nat)∧((i=0∧wr=w)∨(i=1∧Hid (Wr B b (l++ze s) wr∧Below B w wr∧Kept b w wr))))
 case atStart=>exact ⟨0,rfl,rfl,.inl ⟨rfl,rfl⟩⟩
 case round =>
  obtain ⟨i,rfl,rfl,⟨rfl,rfl⟩ | ⟨rfl,HF⟩⟩:=hrel
  · go_wp2_with fail
    refine HW.out.mono ?_
    rintro e w1 ⟨rfl,hF⟩
    go_wp2
    go_roundg (1-1)
    · exact ⟨1,rfl,rfl,.inr ⟨rfl,Lib.hid hF⟩⟩
    · omega
  · go_wp2
    go_ret
    exact ⟨rfl,HF.out⟩
set_option maxRecDepth 100000 in
theorem zbo (B b n k:Nat) (l:List Nat) (w:World) (h:Wr B b l w) (hn:n<18446744073709551616) (hk:k≤8) (hlen:l.length≤100000000) (hBw:B≤w.heap.size) :
 Calls Tryz.prog 133 #[.pointer (some ⟨b,0,none⟩),.int .u64 (n:Nat),.int .i64 (k:Nat)] w fun e w'=>e = .returned (.pointer (some ⟨b,0,none⟩))∧Wr B b (l++leP n k) w'∧Below B w w'∧Kept b w w':=by
 have HP:=Lib.hid (zee n k w hn hk)
 go_enter Tryz.func133,Tryz.ntmps133
 go_wp2_with fail
 refine HP.out.mono ?_
 rintro e w1 ⟨rfl,hU⟩
 go_wp2_with fail
 have hU2:=hU.alloc (.cells #[.string (zf (leP n k))] 9)
 have hsz:(zf (leP n k)).size=k:=by rw [zh,xa]
 have hb:ze (zf (leP n k))=leP n k:=zz _ (Qi k n)
 refine (JW B b w1.heap.size l _ _ (h.upd hU2) ((Blk.new w1 [.string (zf (leP n k))] 9).cell 0 rfl) (by rw [hsz]; omega) (by have:=hU2.size; omega)).mono ?_
 rintro e w2 ⟨rfl,hW,hL,hK⟩
 rw [hb] at hW
 go_wp2
 go_ret
 exact ⟨rfl,hW,(hU2.belowB hBw).trans hL,hU2.kept.trans hK⟩
theorem zbr (B b g:Nat) (l:List Nat) (s:ByteArray) (w:World) (h:Wr B b l w) (hg:w.cell? ⟨g,0,none⟩=some (.string s)) (hlen:l.length+s.size≤1000000000) (hBw:B≤w.heap.size) :
 Calls Tryz.prog 132 #[.pointer (some ⟨b,0,none⟩),.slice (some ⟨g,0,none⟩) 1 1] w fun e w'=>e = .returned (.pointer (some ⟨b,0,none⟩))∧Wr B b (l++ze s) w'∧Below B w w' :=
 (JW B b g l s w h hg hlen hBw).mono fun _ _ h=>⟨h.1,h.2.1,h.2.2.1⟩
theorem Zt (B b n k:Nat) (l:List Nat) (w:World) (h:Wr B b l w) (hn:n<18446744073709551616) (hk:k≤8) (hlen:l.length≤100000000) (hBw:B≤w.heap.size) :
 Calls Tryz.prog 133 #[.pointer (some ⟨b,0,none⟩),.int .u64 (n:Nat),.int .i64 (k:Nat)] w fun e w'=>e = .returned (.pointer (some ⟨b,0,none⟩))∧Wr B b (l++leP n k) w'∧Below B w w' :=
 (zbo B b n k l w h hn hk hlen hBw).mono fun _ _ h=>⟨h.1,h.2.1,h.2.2.1⟩
end Go.Proofs.YtigjingielnaoaaGreatDoor
namespace Go.Proofs.YtigjingielnaoaaGreatDoor
open Go.RowKit
def zT:RecD:=⟨.empty,0,0,0,0,0,0,0,0⟩
def zdb (h:HdD) (a:Nat):RecD:=⟨zf (zv h.name).1,h.m,h.sum,h.l,h.wh,((zv h.name).2.1:Nat),0,h.t,a⟩
def yn (h:HdD):Bool:=(decide (h.beg=67324752)&&(decide (h.flags=2048)||decide (h.flags=2056))&&(decide (h.m=0)||decide (h.m=8)))&&(decide (h.flags=2048)||(decide (h.sum=0)&&decide (h.l=0)&&decide (h.wh=0)))
def QM (x:ByteArray) (a:Nat):RecD×Nat×Bool×Nat :=
 if x.size<30∨x.size<qE x then (zT,0,false,3)
 else if yn (hdP ⟨x,0,false⟩).1=false then (zT,0,false,2)
 else if (zv (hdP ⟨x,0,false⟩).1.name).2.2=false then (zT,0,false,5)
 else if xj ((zv (hdP ⟨x,0,false⟩).1.name).2.1:Nat) (hdP ⟨x,0,false⟩).1.t=false then (zT,0,false,13)
 else (zdb (hdP ⟨x,0,false⟩).1 a,qE x,decide ((hdP ⟨x,0,false⟩).1.flags=2056),0)
def zj (s:ByteArray) (a:Int):RecD×Nat×Bool×Nat :=
 if a<0∨(s.size:Int)<a then (zT,0,false,3) else QM (s.extract a.toNat s.size) a.toNat
theorem XI {r:RecD} (h:zM r=0):vh r=true∧xH r=true ∧ ¬ (r.md<0∨511<r.md)∧xj r.k r.t=true:=by
 unfold zM at h
 split at h
 · cases h
 rename_i h1
 split at h
 · cases h
 rename_i h2
 split at h
 · cases h
 rename_i h3
 split at h
 · cases h
 rename_i h4
 exact ⟨by simpa using h1,by simpa using h2,h3,by simpa using h4⟩
theorem zeD (r:RS):(hdP r).1.beg<4294967296∧(hdP r).1.flags<65536∧(hdP r).1.m<65536∧(hdP r).1.t<4294967296∧(hdP r).1.sum<4294967296∧(hdP r).1.l<4294967296∧(hdP r).1.wh<4294967296∧(∀ x∈(hdP r).1.name,x<256)∧(hdP r).1.name.length≤65535:=by
 unfold hdP
 dsimp only
 refine ⟨RS.num_lt _ 4,RS.num_lt _ 2,RS.num_lt _ 2,RS.num_lt _ 4,RS.num_lt _ 4,RS.num_lt _ 4,RS.num_lt _ 4,RS.text_lt _ _,?_⟩
 refine Nat.le_trans (RS.text_len _ _) ?_
 have:=RS.num_lt ((((((((r.num 4).2.num 2).2.num 2).2.num 2).2.num 4).2.num 4).2.num 4).2.num 4).2 2
 omega
end Go.Proofs.YtigjingielnaoaaGreatDoor
namespace Go.Proofs.YtigjingielnaoaaGreatDoor
open Go.RowKit
theorem Blk.below {w w':World} {b B:Nat} {cs:List Value} {t:TypeId} (h:Blk w b cs t) (hb:Below B w w') (hlt:b<B):Blk w' b cs t:=(hb.block b hlt).trans h
end Go.Proofs.YtigjingielnaoaaGreatDoor
