/- Package strings' Builder in a block of any type (what String has frozen or not): walks. -/
import Derived.Lib.FrozenHead
import Derived.Test.YtfkcdnaghndgfaaGreatDoorRows
import Derived.WalkKit
import Derived.Handy
import Derived.Lib.MinMax
import Derived.IntWalk
import Derived.BigQuiet
import Derived.StillTailTactics
import Derived.Deep.QuietTactic
import Derived.Deep.RegionHeld3
import Derived.Deep.RegionLaw
import Derived.Deep.DeepCutAuto
import Derived.Deep.DeepFit
import Derived.Deep.LoopGhost
import Derived.Deep.Light
import Derived.Deep.CutBlock
import Derived.Laws.BitsAllLaws
import Derived.Outline
import Derived.WalkSpells
import Derived.Lib.Hide
import Derived.Test.YtfkcdnaghndgfaaGreatDoorQAA
import Derived.Test.YtfkcdnaghndgfaaGreatDoorQAT
import Derived.Test.YtfkcdnaghndgfaaGreatDoorQAX
import Derived.Test.YtfkcdnaghndgfaaGreatDoorQAS
set_option linter.unusedVariables false
set_option linter.unusedSimpArgs false
set_option linter.unusedSectionVars false
namespace Go.Proofs.YtfkcdnaghndgfaaGreatDoor
open Go.RowKit
theorem zhf:(Tryz.prog.info? 5).map (fun i=>(i.zero,i.size,i.bytes))=some (some (.int .u8 0),1,1):=by kernel_rfl
theorem zdi:(Tryz.prog.info? 77).map (·.size)=some 2:=by kernel_rfl
theorem zgi:Tryz.prog.cellsOf 5=1:=by kernel_rfl
def Kr (T:TypeId):Prop:=liesAt Tryz.prog Tryz.prog.depth T (2/Tryz.prog.cellsOf T) 0 77 1=true∧T≠5
def Bld (T:TypeId) (B b:Nat) (l:List Nat) (w:World):Prop:=Lib.IsBuilderF T 5 B b (u8s l) w
theorem Bld.fresh (T:TypeId) (w:World):Bld T w.heap.size w.heap.size [] (w.alloc (.cells #[.pointer none,.slice none 0 0] T)) := .of (Lib.fresh_isBuilder T _ w)
theorem Bld.drew {T:TypeId} {B b:Nat} {l:List Nat} {w:World} (h:Bld T B b l w):Bld T B b l w.drew:=h
theorem Bld.lt {T:TypeId} {B b:Nat} {l:List Nat} {w:World} (h:Bld T B b l w):b<w.heap.size:=h.elim (fun x=>x.lt) (fun x=>x.lt)
theorem zg1 {T:TypeId} {B b:Nat} {p:Value} {bs:List Value} {w w':World} (h:Lib.BuilderAtF T 5 B b p bs w) (hu:Upd [] w w'):Lib.BuilderAtF T 5 B b p bs w':=by
 have hlt:=h.lt
 obtain ⟨hB,v,hbk,hown,hne⟩:=h
 refine ⟨hB,v,(hu.block b hlt (by simp)).trans hbk,⟨hown.1,?_⟩,hne⟩
 rcases hown.2 with ⟨hv,hz⟩ | ⟨g,cap,cur,fz,hv,hBg,hg,r⟩
 · exact .inl ⟨hv,hz⟩
 · exact .inr ⟨g,cap,cur,fz,hv,hBg,(hu.block g (Array.getElem?_eq_some_iff.1 hg).1 (by simp)).trans hg,r⟩
theorem Bld.upd {T:TypeId} {B b:Nat} {l:List Nat} {w w':World} (h:Bld T B b l w) (hu:Upd [] w w'):Bld T B b l w':=h.elim (fun x => .inl (zg1 x hu)) (fun x => .inr (zg1 x hu))
def Kept (b:Nat) (w w':World):Prop := ∀ k cs T,k≠b→T≠5→Blk w k cs T→Blk w' k cs T
theorem Kept.refl (b:Nat) (w:World):Kept b w w:=fun _ _ _ _ _ h=>h
theorem Kept.trans {b:Nat} {u v w:World} (h:Kept b u v) (k:Kept b v w):Kept b u w:=fun j cs T h1 h2 h3=>k j cs T h1 h2 (h j cs T h1 h2 h3)
theorem Upd.kept {b:Nat} {w w':World} (h:Upd [] w w'):Kept b w w':=fun j cs T h1 h2 h3=>h3.upd h (by simp)
theorem zaB {b o:Nat} {w:World} (v:Value):Kept b w (w.setCell ⟨b,o,none⟩ v):=fun j cs T h1 h2 h3=>h3.setFar v h1
set_option maxRecDepth 100000 in
theorem Xj {T:TypeId} (hT:Kr T) (b:Nat) (w:World) (h0:w.cell? ⟨b,0,none⟩=some (.pointer none)) (hsh:w.shape? b=some (T,2)) (hfz:w.frozen? ⟨b,0,none⟩=false) :
 Calls Tryz.prog 135 #[.pointer (some ⟨b,0,none⟩)] w fun e w'=>e = .returned (.tuple #[])∧w'=w.setCell ⟨b,0,none⟩ (.pointer (some ⟨b,0,none⟩)):=by
 obtain ⟨j,hj,hjs⟩:=Option.map_eq_some_iff.1 zdi
 go_enter Tryz.func135,Tryz.ntmps135
 go_wp2
 rw [Lib.run_to_unsafe w ⟨b,0,none⟩ Tryz.underlying74 Tryz.underlying221 hj (by rw [hjs]; decide) hsh (Nat.zero_lt_succ 1)]
 simp only [Result.andThen]
 rw [Oper.upon_value]
 go_wp2
 rw [run_callFunc_extern Tryz.func171 (by kernel_rfl) (by kernel_rfl) (by kernel_rfl) (e:=Extern.AbiNoEscape.same) (by kernel_rfl)]
 rw [Lib.run_noEscape]
 simp only [Result.andThen]
 rw [Oper.upon_value]
 go_wp2
 rw [Lib.run_from_unsafe w ⟨b,0,none⟩ Tryz.underlying221 Tryz.underlying74 hj hsh hT.1]
 simp only [Result.andThen]
 rw [Oper.upon_value]
 go_wp2
 go_end0
 exact ⟨rfl,rfl⟩
set_option maxRecDepth 100000 in
theorem Ym {T:TypeId} (hT:Kr T) (B b:Nat) (l:List Nat) (w:World) (h:Bld T B b l w) :
 Calls Tryz.prog 135 #[.pointer (some ⟨b,0,none⟩)] w fun e w'=>e = .returned (.tuple #[])∧Lib.BuilderAtF T 5 B b (.pointer (some ⟨b,0,none⟩)) (u8s l) w'∧Below B w w'∧Kept b w w':=by
 rcases h with h | h
 · refine (Xj hT b w h.cell0 h.shape h.frozen0).mono ?_
   rintro e w' ⟨rfl,rfl⟩
   exact ⟨rfl,h.used _,(Below.refl _ _).setCell (p:=⟨b,0,none⟩) h.1 _,zaB _⟩
 · obtain ⟨j,hj,hjs⟩:=Option.map_eq_some_iff.1 zdi
   have h0:=h.cell0
   have hF:=Lib.hid h
   have hNE:=fun w=>Lib.run_neq_ptr_same (P:=Tryz.prog) w (tp:=74) (te:=77) ⟨b,0,none⟩ Tryz.underlying74 hj
   clear h
   go_enter Tryz.func135,Tryz.ntmps135
   go_wp2
   go_end0
   exact ⟨rfl,hF.out,Below.refl _ _,Kept.refl _ _⟩
theorem zgd {B:Nat} {w:World} {v:Value} {n:Nat} {xs:List Value} (h:w.ownsRowF B 5 1 v n xs) {k:Nat} {cs:List Value} {T:TypeId} (hk:Blk w k cs T) (hT:T≠5):v.ownBlock≠some k:=Lib.ownBlock_neF h hk hT
set_option maxRecDepth 100000 in
theorem Qv {T:TypeId} (hT:Kr T) (B b:Nat) (l:List Nat) (s:ByteArray) (w:World) (h:Bld T B b l w) (hlen:l.length+s.size≤1000000000) (hBw:B≤w.heap.size) :
 Calls Tryz.prog 88 #[.pointer (some ⟨b,0,none⟩),.string s] w fun e w'=>e = .returned (.tuple #[.int .i64 s.size,.nilIface])∧Bld T B b (l++za s) w'∧Below B w w'∧Kept b w w':=by
 obtain ⟨i0,hi,hz0,hz1,hz2⟩:=info_parts zhf
 have HC:=Lib.hid (Ym hT B b l w h)
 clear h
 go_enter Tryz.func88,Tryz.ntmps88
 go_wp2_with fail
 refine HC.out.mono ?_
 rintro e w1 ⟨rfl,h1,hb1,hk1⟩
 obtain ⟨hB,v,hbk,hown,hne⟩:=h1
 have hlt:b<w1.heap.size:=Lib.BuilderAtF.lt ⟨hB,v,hbk,hown,hne⟩
 have c0:w1.cell? ⟨b,0,none⟩=some (.pointer (some ⟨b,0,none⟩)):=by rw [Lib.cell_of_heap hbk]; rfl
 have c1:w1.cell? ⟨b,1,none⟩=some v:=by rw [Lib.cell_of_heap hbk]; rfl
 have HBK:=Lib.hid hbk
 have hul:(u8s l).length=l.length:=jK l
 clear hbk
 go_wp2_with (at_builtin; refine Lib.wpList_append_own_stringF _ rfl _ _ 75 9 rfl B 5 i0 Tryz.underlying75 Tryz.underlying9 hi hz0 hz1 hz2 _ _ _ rfl hown s rfl ?c3 ?c4 ?c5 ?_)
 case c3=>unfold maxLen; omega
 case c4=>omega
 case c5=>have:=hb1.size; omega
 intro v' w2 hown' hgrow _
 have hb2:w2.heap[b]? =some (.cells #[.pointer (some ⟨b,0,none⟩),v] T (0,0)):=by
  rw [hgrow.block b hlt (fun e=>hne e.symm)]
  exact HBK.out
 have d1:w2.cell? ⟨b,1,none⟩=some v:=by rw [Lib.cell_of_heap hb2]; rfl
 have f1:w2.frozen? ⟨b,1,none⟩=false:=Lib.frozen_of_heap hb2 1
 obtain ⟨ao,n',cap,rfl⟩ : ∃ ao n' cap,v' = .slice ao n' cap:=by
  rcases hown'.2 with ⟨hv,_⟩ | ⟨g,cap,cur,fz,hv,_⟩
  · exact ⟨_,_,_,hv⟩
  · exact ⟨_,_,_,hv⟩
 have HFIN:Hid (Bld T B b (l++za s) (w2.setCell ⟨b,1,none⟩ (.slice ao n' cap))∧Below B w (w2.setCell ⟨b,1,none⟩ (.slice ao n' cap))∧Kept b w (w2.setCell ⟨b,1,none⟩ (.slice ao n' cap))):=Lib.hid ⟨.inr (by
  rw [vI] at hown'
  have e:u8s l++u8s (za s)=u8s (l++za s):=(kX _ _).symm
  rw [e] at hown'
  exact Lib.BuilderAtF.put (T:=T) (e:=5) hB hb2 (bs':=u8s (l++za s)) (by
   have e2:(u8s (l++za s)).length=l.length+s.size:=by rw [jK,List.length_append,zc]
   rw [e2]; exact hown') hT.2),(hb1.grown hgrow (by have:=hb1.size; omega) (fun k hk=>(hown.lt k hk).1)).setCell (p:=⟨b,1,none⟩) hB _,
   (hk1.trans (fun j cs T' h1 h2 h3=>h3.grown hgrow (zgd hown h3 h2))).trans (zaB _)⟩
 clear hown' hgrow hb2 hown hb1 hk1
 go_wp2
 go_ret2
 exact ⟨rfl,HFIN.out⟩
theorem strOf_eq' (l:List Nat) (h : ∀ x∈l,x<256):u8s l=Lib.byteCells (l.map UInt8.ofNat):=by
 unfold u8s Lib.byteCells
 rw [List.map_map]
 refine List.map_congr_left fun x hx=>?_
 have:=h x hx
 simp only [Function.comp,UInt8.toNat_ofNat']
 rw [Nat.mod_eq_of_lt (by omega)]
set_option maxRecDepth 100000 in
theorem KW {T:TypeId} (B b:Nat) (l:List Nat) (w:World) (h:Bld T B b l w) (h0:l≠[]) (hb : ∀ x∈l,x<256) :
 Calls Tryz.prog 89 #[.pointer (some ⟨b,0,none⟩)] w fun e w'=>e = .returned (.string (zd l))∧Bld T B b l w'∧Below B w w'∧Kept b w w':=by
 obtain ⟨p,hp,hAt⟩ : ∃ p,(p = .pointer none∨p = .pointer (some ⟨b,0,none⟩))∧Lib.BuilderAtF T 5 B b p (u8s l) w:=by
  rcases h with h | h
  · exact ⟨_,.inl rfl,h⟩
  · exact ⟨_,.inr rfl,h⟩
 have HA:=Lib.hid hAt
 obtain ⟨hB,v,hbk,hown,hne⟩:=hAt
 have hl0:l.length≠0:=by simpa using h0
 have hlu:=jK l
 rw [hlu] at hown
 obtain ⟨g,cap,cur,fz,rfl,hbg,hg,hfz,hnc,hcm,hcs,htake⟩ : ∃ g cap cur fz,v = .slice (some ⟨g,0,none⟩) l.length cap∧B≤g∧w.heap[g]? =some (.cells cur 5 fz)∧fz.2≤l.length*1∧l.length≤cap∧cap≤maxLen∧cur.size=cap*1∧cur.toList.take (l.length*1)=u8s l:=by
  rcases hown.2 with ⟨_,hz⟩ | ⟨g,cap,cur,fz,hv,r⟩
  · exact absurd hz hl0
  · exact ⟨g,cap,cur,fz,hv,r⟩
 have c1:w.drew.cell? ⟨b,1,none⟩=some (.slice (some ⟨g,0,none⟩) l.length cap):=by
  have:w.drew.heap[b]? =some (.cells #[p,.slice (some ⟨g,0,none⟩) l.length cap] T (0,0)):=hbk
  rw [Lib.cell_of_heap this]; rfl
 have hSD:(Builtin.unsafeSliceData_ #[75] 192 #[.slice (some ⟨g,0,none⟩) l.length cap]).run Tryz.prog w.drew = .ok (.pointer (some ⟨g,0,none⟩)) w.drew :=
  Lib.run_unsafeSliceData_row _ _ _ _ _ _ (by omega)
 have hml:(l.map UInt8.ofNat).length=l.length:=by simp
 have hUS:(Builtin.unsafeString_ #[192,3] 9 #[.pointer (some ⟨g,0,none⟩),.int .i64 l.length]).run Tryz.prog w.drew = .ok (.string (zd l)) (w.drew.freeze ⟨g,0,none⟩ l.length):=by
  have:=Lib.run_unsafeString_row (P:=Tryz.prog) w.drew 192 3 9 5 Tryz.underlying192 zgi g cur.size (by have hg':w.drew.heap[g]? =some (.cells cur 5 fz):=hg; simp [World.shape?,hg']) (l.map UInt8.ofNat) (by simpa using h0) (by rw [hml]; omega) (by rw [hml]; unfold maxLen at hcm; omega) (by
   intro j x hx
   have:=hown.cells (g:=g) rfl j (.int .u8 x.toNat) (by
    rw [strOf_eq' l hb]; unfold Lib.byteCells; rw [List.getElem?_map,hx]; rfl)
   exact this)
  rw [hml] at this
  exact this
 clear hml
 have HFIN:Hid (Bld T B b l (w.drew.freeze ⟨g,0,none⟩ l.length)∧Below B w (w.drew.freeze ⟨g,0,none⟩ l.length)∧Kept b w (w.drew.freeze ⟨g,0,none⟩ l.length)):=Lib.hid ⟨by
  have hF:=(show Lib.BuilderAtF T 5 B b p (u8s l) w.drew from HA.out).froze (g:=g) (cap:=cap) (by rw [hlu]; exact c1)
  rw [hlu] at hF
  rcases hp with rfl | rfl
  · exact .inl hF
  · exact .inr hF,Lib.below_freeze (Below.drew (Below.refl B w)) (p:=⟨g,0,none⟩) hbg _,fun k cs T' h1 h2 h3=>by
  have hk:k≠g:=by
   rintro rfl
   unfold Blk at h3
   rw [hg] at h3
   simp only [Option.some.injEq,Obj.cells.injEq] at h3
   exact h2 h3.2.1.symm
  unfold Blk World.freeze
  split
  · exact h3
  · simp only [Array.getElem?_modify]
    rw [if_neg (Ne.symm hk)]
    exact h3⟩
 have HTK:=Lib.hid htake
 clear htake hown hg hbk hne h HA
 go_enter Tryz.func89,Tryz.ntmps89
 go_wp2
 go_region
 all_goals (go_wp2; go_ret; exact ⟨rfl,HFIN.out⟩)
theorem Ww {T:TypeId} (B b:Nat) (l:List Nat) (w:World) (h:Bld T B b l w) (h0:l≠[]) (hb : ∀ x∈l,x<256) :
 Calls Tryz.prog 89 #[.pointer (some ⟨b,0,none⟩)] w fun e w'=>e = .returned (.string (zd l))∧Below B w w' :=
 (KW B b l w h h0 hb).mono fun _ _ h=>⟨h.1,h.2.2.1⟩
end Go.Proofs.YtfkcdnaghndgfaaGreatDoor
namespace Go.Proofs.YtfkcdnaghndgfaaGreatDoor
open Go.RowKit
theorem zi9:Kr 79:=⟨by kernel_rfl,by decide⟩
abbrev Wr (B b:Nat) (l:List Nat) (w:World):Prop:=Bld 79 B b l w
theorem Upd.belowB {B:Nat} {w w':World} (h:Upd [] w w') (hB:B≤w.heap.size):Below B w w':=h.below' hB (by simp)
set_option maxRecDepth 100000 in
theorem XF (B b g:Nat) (l:List Nat) (s:ByteArray) (w:World) (h:Wr B b l w) (hg:w.cell? ⟨g,0,none⟩=some (.string s)) (hlen:l.length+s.size≤1000000000) (hBw:B≤w.heap.size) :
 Calls Tryz.prog 51 #[.pointer (some ⟨b,0,none⟩),.slice (some ⟨g,0,none⟩) 1 1] w fun e w'=>e = .returned (.pointer (some ⟨b,0,none⟩))∧Wr B b (l++za s) w'∧Below B w w'∧Kept b w w':=by
 have HW:=Lib.hid (Qv zi9 B b l s w h hlen hBw)
 clear h
 go_enter Tryz.func51,Tryz.ntmps51
 go_wp2
 go_loopg [11] 1 (fun gg s11 wr => ∃ i,gg=1-i∧s11 = .int .i64 (i:Nat)∧((i=0∧wr=w)∨(i=1∧Hid (Wr B b (l++za s) wr∧Below B w wr∧Kept b w wr))))
 case atStart=>exact ⟨0,rfl,rfl,.inl ⟨rfl,rfl⟩⟩
 case round =>
  obtain ⟨i,rfl,rfl,⟨rfl,rfl⟩ | ⟨rfl,HF⟩⟩:=hrel
  · go_wp2_with fail
    refine HW.out.mono ?_
    rintro e w1 ⟨rfl,hF⟩
    go_wp2
    go_roundg (1-1)
    · exact ⟨1,rfl,rfl,.inr ⟨rfl,Lib.hid hF⟩⟩
    · omega
  · go_wp2
    go_ret
    exact ⟨rfl,HF.out⟩
set_option maxRecDepth 100000 in
theorem zff (B b n k:Nat) (l:List Nat) (w:World) (h:Wr B b l w) (hn:n<18446744073709551616) (hk:k≤8) (hlen:l.length≤100000000) (hBw:B≤w.heap.size) :
 Calls Tryz.prog 49 #[.pointer (some ⟨b,0,none⟩),.int .u64 (n:Nat),.int .i64 (k:Nat)] w fun e w'=>e = .returned (.pointer (some ⟨b,0,none⟩))∧Wr B b (l++leP n k) w'∧Below B w w'∧Kept b w w':=by
 have HP:=Lib.hid (zhy n k w hn hk)
 go_enter Tryz.func49,Tryz.ntmps49
 go_wp2_with fail
 refine HP.out.mono ?_
 rintro e w1 ⟨rfl,hU⟩
 go_wp2_with fail
 have hU2:=hU.alloc (.cells #[.string (zd (leP n k))] 9)
 have hsz:(zd (leP n k)).size=k:=by rw [zq,yH]
 have hb:za (zd (leP n k))=leP n k:=zE _ (zcx k n)
 refine (XF B b w1.heap.size l _ _ (h.upd hU2) ((Blk.new w1 [.string (zd (leP n k))] 9).cell 0 rfl) (by rw [hsz]; omega) (by have:=hU2.size; omega)).mono ?_
 rintro e w2 ⟨rfl,hW,hL,hK⟩
 rw [hb] at hW
 go_wp2
 go_ret
 exact ⟨rfl,hW,(hU2.belowB hBw).trans hL,hU2.kept.trans hK⟩
theorem zfi (B b g:Nat) (l:List Nat) (s:ByteArray) (w:World) (h:Wr B b l w) (hg:w.cell? ⟨g,0,none⟩=some (.string s)) (hlen:l.length+s.size≤1000000000) (hBw:B≤w.heap.size) :
 Calls Tryz.prog 51 #[.pointer (some ⟨b,0,none⟩),.slice (some ⟨g,0,none⟩) 1 1] w fun e w'=>e = .returned (.pointer (some ⟨b,0,none⟩))∧Wr B b (l++za s) w'∧Below B w w' :=
 (XF B b g l s w h hg hlen hBw).mono fun _ _ h=>⟨h.1,h.2.1,h.2.2.1⟩
theorem Wo (B b n k:Nat) (l:List Nat) (w:World) (h:Wr B b l w) (hn:n<18446744073709551616) (hk:k≤8) (hlen:l.length≤100000000) (hBw:B≤w.heap.size) :
 Calls Tryz.prog 49 #[.pointer (some ⟨b,0,none⟩),.int .u64 (n:Nat),.int .i64 (k:Nat)] w fun e w'=>e = .returned (.pointer (some ⟨b,0,none⟩))∧Wr B b (l++leP n k) w'∧Below B w w' :=
 (zff B b n k l w h hn hk hlen hBw).mono fun _ _ h=>⟨h.1,h.2.1,h.2.2.1⟩
end Go.Proofs.YtfkcdnaghndgfaaGreatDoor
namespace Go.Proofs.YtfkcdnaghndgfaaGreatDoor
open Go.RowKit
theorem zby (B b:Nat) (l:List Nat) (w:World) (h:Wr B b l w) (h0:l≠[]) (hb : ∀ x∈l,x<256) :
 Calls Tryz.prog 52 #[.pointer (some ⟨b,0,none⟩)] w fun e w'=>e = .returned (.string (zd l))∧Below B w w':=by
 have HS:=Lib.hid (Ww B b l w h h0 hb)
 clear h
 go_enter Tryz.func52,Tryz.ntmps52
 go_wp2_with fail
 refine HS.out.mono ?_
 rintro e w1 ⟨rfl,hF⟩
 go_wp2
 go_ret
 exact ⟨rfl,hF⟩
theorem Qa (B b n:Nat) (l:List Nat) (w:World) (h:Wr B b l w) (hn:n<9223372036854775808) (hlen:l.length≤100000000) (hBw:B≤w.heap.size) :
 Calls Tryz.prog 48 #[.int .i64 (n:Nat),.pointer (some ⟨b,0,none⟩)] w fun e w'=>e = .returned (.tuple #[])∧Wr B b (l++leP n 2) w'∧Below B w w':=by
 have HS:=Lib.hid (Wo B b n 2 l w h (by omega) (by omega) hlen hBw)
 clear h
 go_enter Tryz.func48,Tryz.ntmps48
 go_wp2_with fail
 refine HS.out.mono ?_
 rintro e w1 ⟨rfl,hF⟩
 go_wp2
 go_end0
 exact ⟨rfl,hF⟩
theorem vJ (B b n:Nat) (l:List Nat) (w:World) (h:Wr B b l w) (hn:n<9223372036854775808) (hlen:l.length≤100000000) (hBw:B≤w.heap.size) :
 Calls Tryz.prog 50 #[.int .i64 (n:Nat),.pointer (some ⟨b,0,none⟩)] w fun e w'=>e = .returned (.tuple #[])∧Wr B b (l++leP n 4) w'∧Below B w w':=by
 have HS:=Lib.hid (Wo B b n 4 l w h (by omega) (by omega) hlen hBw)
 clear h
 go_enter Tryz.func50,Tryz.ntmps50
 go_wp2_with fail
 refine HS.out.mono ?_
 rintro e w1 ⟨rfl,hF⟩
 go_wp2
 go_end0
 exact ⟨rfl,hF⟩
theorem Blk.below {w w':World} {b B:Nat} {cs:List Value} {t:TypeId} (h:Blk w b cs t) (hb:Below B w w') (hlt:b<B):Blk w' b cs t:=(hb.block b hlt).trans h
set_option maxRecDepth 100000 in
set_option maxHeartbeats 4000000 in
theorem Kq (r:RecD) (w:World) (h:r.Fits):Calls Tryz.prog 22 #[r.v] w fun e w'=>e = .returned (.string (zd (KG r)))∧Upd [] w w':=by
 have hp:=h.p
 have hs:=h.sum
 have ht:=h.t
 have HR:=Lib.hid (fun w=>JJ r w h)
 have HN:=Lib.hid (fun w=>Xh r w h)
 have hnl:=jB r.k r.p
 have HNL:=Lib.hid (jR r.k r.p)
 have HW:Hid (KG r=if yF r=0 then vB r else []):=Lib.hid rfl
 have HH:Hid (vB r=[80,75,3,4,20,0,0,8]++(leP r.m.toNat 2++(leP r.t 4++(leP r.sum 4++(leP r.l.toNat 4++(leP r.wh.toNat 4++(leP (zJ r.k r.p).length 2++([0,0]++zJ r.k r.p)))))))):=Lib.hid rfl
 have HLT:=Lib.hid (zfV r)
 have HPT:=Lib.hid (fun h0=>za4 (Qk (r:=r) h0).2.1)
 generalize vB r=hd at *
 generalize KG r=wr at *
 by_cases hE:yF r=0
 rotate_left
 · rw [if_neg hE] at HW
   generalize yF r=E at *
   obtain ⟨p,m,sum,l,wh,k,md,t,pos⟩:=r
   unfold RecD.v at *
   dsimp only at *
   have t1:((E:Int) != 0)=true:=by simpa using hE
   go_enter Tryz.func22,Tryz.ntmps22
   go_wp2_with fail
   refine (HR.out _).mono ?_
   rintro e w1 ⟨rfl,hU1⟩
   have HU:=Lib.hid (((Upd.refl [] w).alloc (.cells #[.string p,.int .i64 m,.int .u32 (sum:Nat),.int .i64 l,.int .i64 wh,.int .i64 k,.int .i64 md,.int .u32 (t:Nat),.int .i64 pos] 26)).then hU1)
   go_wp2_with fail
   go_ret
   exact ⟨by rw [HW.out]; rfl,HU.out⟩
 · rw [if_pos hE] at HW
   rw [hE] at HR
   obtain ⟨pm,pl,pw,pa⟩:=HPT.out hE
   clear hE HPT
   have hsz:(zd (zJ r.k r.p)).size=(zJ r.k r.p).length:=zq _
   have HBN:=Lib.hid (zE _ (jR r.k r.p))
   generalize hS:zd (zJ r.k r.p)=S at *
   generalize hnm:zJ r.k r.p=nm at *
   obtain ⟨p,m,sum,l,wh,k,md,t,pos⟩:=r
   unfold RecD.v at *
   dsimp only at *
   obtain ⟨mn,rfl⟩ : ∃ mn:Nat,m=mn:=⟨m.toNat,by omega⟩
   obtain ⟨ln,rfl⟩ : ∃ ln:Nat,l=ln:=⟨l.toNat,by omega⟩
   obtain ⟨wn,rfl⟩ : ∃ wn:Nat,wh=wn:=⟨wh.toNat,by omega⟩
   simp only [Int.toNat_natCast] at HH
   have hmn:mn≤8:=by omega
   have hln:ln<2147483648:=by omega
   have hwn:wn<2147483648:=by omega
   have hz:(S.size:Int)≤1001:=by omega
   clear pm pl pw pa
   go_enter Tryz.func22,Tryz.ntmps22
   go_wp2_with fail
   refine (HR.out _).mono ?_
   rintro e w1 ⟨rfl,hU1⟩
   have HU:=Lib.hid (((Upd.refl [] w).alloc (.cells #[.string p,.int .i64 mn,.int .u32 (sum:Nat),.int .i64 ln,.int .i64 wn,.int .i64 k,.int .i64 md,.int .u32 (t:Nat),.int .i64 pos] 26)).then hU1)
   have hB:=(Blk.new w [.string p,.int .i64 mn,.int .u32 (sum:Nat),.int .i64 ln,.int .i64 wn,.int .i64 k,.int .i64 md,.int .u32 (t:Nat),.int .i64 pos] 26).upd hU1 (by simp)
   generalize w.heap.size=b0 at *
   have hlt:=hB.lt
   have hW0:=Bld.fresh 79 w1
   have hBB:=hB.alloc (.cells #[.pointer none,.slice none 0 0] 79)
   have cA:=hBB.all
   have HBB:=Lib.hid hBB
   have hA:w1.heap.size≤(w1.alloc (.cells #[.pointer none,.slice none 0 0] 79)).heap.size:=by rw [World.size_alloc]; omega
   have HL:=Lib.hid (Below.refl w1.heap.size (w1.alloc (.cells #[.pointer none,.slice none 0 0] 79)))
   go_wp2_with fail
   refine (vJ w1.heap.size w1.heap.size (67324752) _ _ hW0 (by omega) (by simp only [List.length_append,yH,List.length_nil]; omega) hA).mono ?_
   rintro e x0 ⟨rfl,hWx0,hLx0⟩
   have HLx0:=Lib.hid (HL.out.trans hLx0)
   have hBx0:=HBB.out.below hLx0 hlt
   have hAx0:=Nat.le_trans hA hLx0.size
   clear cA
   have dA:=hBx0.all
   have HBx0:=Lib.hid hBx0
   clear hBx0 hLx0
   go_wp2_with fail
   refine (Qa w1.heap.size w1.heap.size (20) _ _ hWx0 (by omega) (by simp only [List.length_append,yH,List.length_nil]; omega) hAx0).mono ?_
   rintro e x1 ⟨rfl,hWx1,hLx1⟩
   have HLx1:=Lib.hid (HLx0.out.trans hLx1)
   have hBx1:=HBx0.out.below hLx1 hlt
   have hAx1:=Nat.le_trans hAx0 hLx1.size
   clear dA
   have cA:=hBx1.all
   have HBx1:=Lib.hid hBx1
   clear hBx1 hLx1
   go_wp2_with fail
   refine (Qa w1.heap.size w1.heap.size (2048) _ _ hWx1 (by omega) (by simp only [List.length_append,yH,List.length_nil]; omega) hAx1).mono ?_
   rintro e x2 ⟨rfl,hWx2,hLx2⟩
   have HLx2:=Lib.hid (HLx1.out.trans hLx2)
   have hBx2:=HBx1.out.below hLx2 hlt
   have hAx2:=Nat.le_trans hAx1 hLx2.size
   clear cA
   have dA:=hBx2.all
   have HBx2:=Lib.hid hBx2
   clear hBx2 hLx2
   go_wp2_with fail
   refine (Qa w1.heap.size w1.heap.size (mn) _ _ hWx2 (by omega) (by simp only [List.length_append,yH,List.length_nil]; omega) hAx2).mono ?_
   rintro e x3 ⟨rfl,hWx3,hLx3⟩
   have HLx3:=Lib.hid (HLx2.out.trans hLx3)
   have hBx3:=HBx2.out.below hLx3 hlt
   have hAx3:=Nat.le_trans hAx2 hLx3.size
   clear dA
   have cA:=hBx3.all
   have HBx3:=Lib.hid hBx3
   clear hBx3 hLx3
   go_wp2_with fail
   refine (vJ w1.heap.size w1.heap.size (t) _ _ hWx3 (by omega) (by simp only [List.length_append,yH,List.length_nil]; omega) hAx3).mono ?_
   rintro e x4 ⟨rfl,hWx4,hLx4⟩
   have HLx4:=Lib.hid (HLx3.out.trans hLx4)
   have hBx4:=HBx3.out.below hLx4 hlt
   have hAx4:=Nat.le_trans hAx3 hLx4.size
   clear cA
   have dA:=hBx4.all
   have HBx4:=Lib.hid hBx4
   clear hBx4 hLx4
   go_wp2_with fail
   refine (vJ w1.heap.size w1.heap.size (sum) _ _ hWx4 (by omega) (by simp only [List.length_append,yH,List.length_nil]; omega) hAx4).mono ?_
   rintro e x5 ⟨rfl,hWx5,hLx5⟩
   have HLx5:=Lib.hid (HLx4.out.trans hLx5)
   have hBx5:=HBx4.out.below hLx5 hlt
   have hAx5:=Nat.le_trans hAx4 hLx5.size
   clear dA
   have cA:=hBx5.all
   have HBx5:=Lib.hid hBx5
   clear hBx5 hLx5
   go_wp2_with fail
   refine (vJ w1.heap.size w1.heap.size (ln) _ _ hWx5 (by omega) (by simp only [List.length_append,yH,List.length_nil]; omega) hAx5).mono ?_
   rintro e x6 ⟨rfl,hWx6,hLx6⟩
   have HLx6:=Lib.hid (HLx5.out.trans hLx6)
   have hBx6:=HBx5.out.below hLx6 hlt
   have hAx6:=Nat.le_trans hAx5 hLx6.size
   clear cA
   have dA:=hBx6.all
   have HBx6:=Lib.hid hBx6
   clear hBx6 hLx6
   go_wp2_with fail
   refine (vJ w1.heap.size w1.heap.size (wn) _ _ hWx6 (by omega) (by simp only [List.length_append,yH,List.length_nil]; omega) hAx6).mono ?_
   rintro e x7 ⟨rfl,hWx7,hLx7⟩
   have HLx7:=Lib.hid (HLx6.out.trans hLx7)
   have hBx7:=HBx6.out.below hLx7 hlt
   have hAx7:=Nat.le_trans hAx6 hLx7.size
   clear dA
   have cA:=hBx7.all
   have HBx7:=Lib.hid hBx7
   clear hBx7 hLx7
   go_wp2_with fail
   refine (HN.out _).mono ?_
   rintro e x8 ⟨rfl,hN8⟩
   have hWx8:=hWx7.upd hN8
   have hLx8:=(hN8.belowB hAx7)
   have HLx8:=Lib.hid (HLx7.out.trans hLx8)
   have hBx8:=HBx7.out.below hLx8 hlt
   have hAx8:=Nat.le_trans hAx7 hLx8.size
   clear cA
   have dA:=hBx8.all
   have HBx8:=Lib.hid hBx8
   clear hBx8 hLx8
   go_wp2_with fail
   refine (Qa w1.heap.size w1.heap.size (nm.length) _ _ hWx8 (by omega) (by simp only [List.length_append,yH,List.length_nil]; omega) hAx8).mono ?_
   rintro e x9 ⟨rfl,hWx9,hLx9⟩
   have HLx9:=Lib.hid (HLx8.out.trans hLx9)
   have hBx9:=HBx8.out.below hLx9 hlt
   have hAx9:=Nat.le_trans hAx8 hLx9.size
   clear dA
   have cA:=hBx9.all
   have HBx9:=Lib.hid hBx9
   clear hBx9 hLx9
   go_wp2_with fail
   refine (Qa w1.heap.size w1.heap.size (0) _ _ hWx9 (by omega) (by simp only [List.length_append,yH,List.length_nil]; omega) hAx9).mono ?_
   rintro e x10 ⟨rfl,hWx10,hLx10⟩
   have HLx10:=Lib.hid (HLx9.out.trans hLx10)
   have hBx10:=HBx9.out.below hLx10 hlt
   have hAx10:=Nat.le_trans hAx9 hLx10.size
   clear cA
   have dA:=hBx10.all
   have HBx10:=Lib.hid hBx10
   clear hBx10 hLx10
   go_wp2_with fail
   refine (HN.out _).mono ?_
   rintro e y1 ⟨rfl,hN1⟩
   have hW1:=hWx10.upd hN1
   have HL1:=Lib.hid (HLx10.out.trans (hN1.belowB hAx10))
   have hA1:=Nat.le_trans hAx10 hN1.size
   go_wp2_with fail
   have hU2:=(Upd.refl [] y1).alloc (.cells #[.string S] 9)
   refine (zfi w1.heap.size w1.heap.size y1.heap.size _ S _ (hW1.upd hU2) ((Blk.new y1 [.string S] 9).cell 0 rfl) (by simp only [List.length_append,yH,List.length_nil]; omega) (by have:=hU2.size; omega)).mono ?_
   rintro e y2 ⟨rfl,hW2,hL2⟩
   have HL2:=Lib.hid ((HL1.out.trans (hU2.belowB hA1)).trans hL2)
   rw [HBN.out] at hW2
   have hhd:[]++leP 67324752 4++leP 20 2++leP 2048 2++leP mn 2++leP t 4++leP sum 4++leP ln 4++leP wn 4++leP nm.length 2++leP 0 2++nm=hd:=by
    rw [HH.out]
    simp [List.append_assoc,leP]
   rw [hhd] at hW2
   go_wp2_with fail
   refine (zby _ _ hd _ hW2 (by rw [HH.out]; simp) HLT.out).mono ?_
   rintro e y3 ⟨rfl,hL3⟩
   have HL3:=Lib.hid (HL2.out.trans hL3)
   go_wp2
   go_ret
   refine ⟨by rw [HW.out]; rfl,?_⟩
   exact HU.out.then (Upd.of_below ((((Upd.refl [] w1).alloc _).below).trans HL3.out))
end Go.Proofs.YtfkcdnaghndgfaaGreatDoor
