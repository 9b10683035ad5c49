/- Package dump: a number's decimal digits; the reference's: walks (numbers of thirteen digits). -/
import Derived.Test.YtigjingielnaoaaGreatDoorQAK
import Derived.Lib.Bytealg
import Derived.Test.YtigjingielnaoaaGreatDoorQAA
import Derived.Laws.Strings3
import Derived.Deep.OwnRows
import Derived.Deep.LoopGhost
import Derived.WalkKit
import Derived.Handy
import Derived.Outline
import Derived.BigQuiet
import Derived.Deep.CutBlock
import Derived.Deep.DeepCutAuto
import Derived.Deep.DeepFit
import Derived.Deep.Light
import Derived.Deep.QuietTactic
import Derived.Deep.RegionHeld3
import Derived.Deep.RegionLaw
import Derived.IntWalk
import Derived.Laws.BitsAllLaws
import Derived.Lib.MinMax
import Derived.StillTailTactics
import Derived.WalkSpells
import Derived.Lib.Hide
import Derived.Test.YtigjingielnaoaaGreatDoorQAB
import Derived.Lib.MakeNoZero
import Derived.Shelf.RegionOpen
import Derived.Test.YtigjingielnaoaaGreatDoorQAH
set_option linter.unusedVariables false
set_option linter.unusedSimpArgs false
set_option linter.unusedSectionVars false
namespace Go.Proofs.YtigjingielnaoaaGreatDoor
open Go.RowKit
set_option maxRecDepth 100000 in
set_option maxHeartbeats 3200000 in
theorem qe (n:Nat) (w:World) (hn:n<10000000000000):Calls Tryz.prog 42 #[.int .i64 (n:Nat)] w fun e w'=>e = .returned (.string (zf (zA n)))∧Upd [] w w':=by
 go_enter Tryz.func42,Tryz.ntmps42
 go_wp2
 go_loopg [0,3] (0+n) (fun gg s0 s3 wr => ∃ (m:Nat) (L:List Nat),gg=0+m∧s0 = .int .i64 (m:Nat)∧s3 = .string (zf L)∧Hid (zA n=zA m++L)∧m<10000000000000∧Hid (L.length≤14)∧Hid (Upd [] w wr))
 case atStart=>exact ⟨n,[],rfl,rfl,rfl,Lib.hid (by simp),hn,Lib.hid (by simp),Lib.hid (Upd.refl _ _)⟩
 case round =>
  obtain ⟨m,L,rfl,rfl,rfl,HM,hm,HL,HU⟩:=hrel
  have HA:=Lib.hid (fun d w=>YH d L (by have:=HL.out; omega) w)
  by_cases hc:9<m
  · have hcz:(9:Int)<(m:Int):=by omega
    have hcv:=Jo m wr
    have hadd:=fun w=>HA.out (48+m%10) w
    have HL2:Hid (zA n=zA (m/10)++((48+m%10)::L)):=Lib.hid (by rw [HM.out,jH m (by omega),List.append_assoc]; rfl)
    have HL7:Hid (((48+m%10)::L).length≤14):=Lib.hid (by
     have h1:=HL2.out
     have h2:=yd 13 n (by omega)
     have h3:0<(zA (m/10)).length:=by
      by_cases h:m/10<10
      · rw [xy _ h]; simp
      · rw [jH _ h]; simp
     rw [h1,List.length_append] at h2
     omega)
    generalize ((48+m%10)::L)=L2 at *
    go_wp2
    go_roundg (0+m/10)
    · exact ⟨m/10,L2,rfl,by first | rfl | go_num,rfl,HL2,by omega,HL7,Lib.hid (HU.out.alloc _)⟩
    · omega
  · have hcz : ¬ (9:Int)<(m:Int):=by omega
    have hcv:=VX m wr
    have hadd:=fun w=>HA.out (48+m) w
    have HL2:Hid (zA n=(48+m)::L):=Lib.hid (by rw [HM.out,xy m (by omega)]; rfl)
    generalize ((48+m)::L)=L2 at *
    go_wp2
    go_ret
    exact ⟨by rw [HL2.out]; rfl,HU.out.alloc _⟩
set_option maxRecDepth 100000 in
set_option maxHeartbeats 3200000 in
theorem qT (n:Nat) (w:World) (hn:n<10000000000000):Calls Tryz.prog 20 #[.int .i64 (n:Nat)] w fun e w'=>e = .returned (.string (zf (zA n)))∧Upd [] w w':=by
 have hcz0 : ¬ (n:Int)<0:=by omega
 have hcv:=Jo n w
 go_enter Tryz.func20,Tryz.ntmps20
 go_wp2
 clear hcv
 have hU0:Upd [] w (w.alloc (.cells #[.int .u8 (48+(n:Int)%10)] 5)):=(Upd.refl [] w).alloc _
 have HU0:=Lib.hid hU0
 clear hU0
 generalize w.alloc (.cells #[.int .u8 (48+(n:Int)%10)] 5)=w0 at *
 go_loopg [0,3] (0+n/10) (fun gg s0 s3 wr => ∃ (m:Nat) (L:List Nat),gg=0+m∧s0 = .int .i64 (m:Nat)∧s3 = .string (zf L)∧Hid (zA n=(if m=0 then [] else zA m)++L)∧m<10000000000000∧Hid (L.length≤14)∧Hid (Upd [] w wr))
 case atStart =>
  refine ⟨n/10,[48+n%10],rfl,by first | rfl | go_num,rfl,Lib.hid ?_,by omega,Lib.hid (by simp),HU0⟩
  by_cases h:n<10
  · rw [if_pos (by omega),xy n h,Nat.mod_eq_of_lt h]; rfl
  · rw [if_neg (by omega),jH n h]
 case round =>
  obtain ⟨m,L,rfl,rfl,rfl,HM,hm,HL,HU⟩:=hrel
  clear HU0
  have HA:=Lib.hid (fun d w=>YH d L (by have:=HL.out; omega) w)
  by_cases hc:0<m
  · have hcz:(0:Int)<(m:Int):=by omega
    have hcv:=Jo m wr
    have hadd:=fun w=>HA.out (48+m%10) w
    have HL2:Hid (zA n=(if m/10=0 then [] else zA (m/10))++((48+m%10)::L)):=Lib.hid (by
     rw [HM.out,if_neg (by omega)]
     by_cases h:m<10
     · rw [if_pos (by omega),xy m h,Nat.mod_eq_of_lt h]; rfl
     · rw [if_neg (by omega),jH m h,List.append_assoc]; rfl)
    have HL7:Hid (((48+m%10)::L).length≤14):=Lib.hid (by
     have h1:=HL2.out
     have h2:=yd 13 n (by omega)
     rw [h1,List.length_append] at h2
     omega)
    generalize ((48+m%10)::L)=L2 at *
    go_wp2
    go_roundg (0+m/10)
    · exact ⟨m/10,L2,rfl,by first | rfl | go_num,rfl,HL2,by omega,HL7,Lib.hid (HU.out.alloc _)⟩
    · omega
  · have hcz : ¬ (0:Int)<(m:Int):=by omega
    have hm0:m=0:=by omega
    subst hm0
    have HL2:Hid (zA n=L):=Lib.hid (by rw [HM.out,if_pos rfl]; rfl)
    go_wp2
    go_ret
    exact ⟨by rw [HL2.out]; rfl,HU.out⟩
end Go.Proofs.YtigjingielnaoaaGreatDoor
namespace Go.Proofs.YtigjingielnaoaaGreatDoor
open Go.RowKit
def Xf:ByteArray := { data := #[48,49,50,51,52,53,54,55,56,57,97,98,99,100,101,102] }
def ZA (k:Nat):Nat:=if k<10 then 48+k else 87+k
def yC (n:Nat):Nat→List Nat
 | 0=>[]
 | k+1=>yC (n/16) k++[ZA (n%16)]
theorem qB : ∀ (k n:Nat),(yC n k).length=k
 | 0,_=>rfl
 | k+1,n=>by rw [yC,List.length_append,qB k]; rfl
theorem QU : ∀ (k n:Nat),∀ x∈yC n k,48≤x∧x≤57∨97≤x∧x≤102
 | 0,_,x,h=>by cases h
 | k+1,n,x,h=>by
   rw [yC] at h
   rcases List.mem_append.1 h with h | h
   · exact QU k _ x h
   · simp [ZA] at h; split at h<;>omega
theorem Jl : ∀ (i n:Nat),yC n (i+1)=ZA (n/16^i%16)::yC n i
 | 0,n=>by simp [yC]
 | i+1,n=>by
   rw [yC,Jl i (n/16),yC,Nat.div_div_eq_div_mul,Nat.pow_succ']
   rfl
theorem zbD (k:Nat) (h:k<16):(Xf[k]'(by exact h)).toNat=ZA k:=by
 have : ∀ k:Fin 16,(Xf[k.val]'(by exact k.isLt)).toNat=ZA k.val:=by decide
 exact this ⟨k,h⟩
theorem zbm (k:Nat) (h:k<16):Xf.extract k (k+1)=zf [ZA k]:=by
 have : ∀ k:Fin 16,(Xf.extract k.val (k.val+1)).data=(zf [ZA k.val]).data:=by decide
 exact ByteArray.ext (this ⟨k,h⟩)
theorem VK (L M:List Nat) (hL:L.length+M.length≤1000) (w:World):(Op.stringOp .add (zf L) (zf M)).run Tryz.prog w = .ok (.string (zf (L++M))) w:=by
 rw [run_string_add_sum _ _ _ (by rw [zh,zh]; omega),← jI]
set_option maxRecDepth 100000 in
set_option maxHeartbeats 3200000 in
theorem zb3 (n:Nat) (w:World) (hn:n<4294967296):Calls Tryz.prog 52 #[.int .u32 (n:Nat)] w fun e w'=>e = .returned (.string (zf (yC n 8)))∧Upd [] w w':=by
 go_enter Tryz.func52,Tryz.ntmps52
 go_wp2
 go_loopg [0,3,4] 8 (fun g s0 s3 s4 wr => ∃ i m,i≤8∧g=8-i∧s4 = .int .i64 (i:Nat)∧s0 = .int .u32 (m:Nat)∧Hid (m=n/16^i)∧m<4294967296∧s3 = .string (zf (yC n i))∧wr=w)
 case atStart=>exact ⟨0,n,by omega,rfl,rfl,rfl,Lib.hid (by simp),hn,rfl,rfl⟩
 case round =>
  obtain ⟨i,m,hi,rfl,rfl,rfl,HM,hm,rfl,rfl⟩:=hrel
  by_cases hc9:i<8
  · have hcz:(i:Int)<8:=by omega
    have HS:Hid (ZA (m%16)::yC n i=yC n (i+1)):=Lib.hid (by rw [Jl,HM.out])
    have hadd:=fun w=>VK [ZA (m%16)] (yC n i) (by rw [qB]; simp; omega) w
    rw [List.singleton_append,HS.out] at hadd
    have hcut:=zbm (m%16) (by omega)
    have HM2:Hid (m/16=n/16^(i+1)):=Lib.hid (by rw [HM.out,Nat.div_div_eq_div_mul,Nat.pow_succ])
    have hk:m%16<16:=by omega
    unfold Xf at hcut
    have hsz:({ data := #[48,49,50,51,52,53,54,55,56,57,97,98,99,100,101,102] }:ByteArray).size=16:=rfl
    generalize ({ data := #[48,49,50,51,52,53,54,55,56,57,97,98,99,100,101,102] }:ByteArray)=HX at *
    go_wp2
    go_roundg (8-(i+1))
    · exact ⟨i+1,m/16,by omega,rfl,by first | rfl | go_num,by first | rfl | go_num,HM2,by omega,rfl,rfl⟩
    · omega
  · have hcz : ¬ (i:Int)<8:=by omega
    have h9:i=8:=by omega
    subst h9
    go_wp2
    go_ret
    exact ⟨rfl,Upd.refl _ _⟩
end Go.Proofs.YtigjingielnaoaaGreatDoor
namespace Go.Proofs.YtigjingielnaoaaGreatDoor
open Go.RowKit
def zN (c:Nat):List (List Nat)→List Nat
 | []=>[]
 | [p]=>p
 | p::q::r=>p++c::zN c (q::r)
theorem QV (c:Nat) : ∀ (ps:List (List Nat)) (p:List Nat),ps≠[]→zN c (ps++[p])=zN c ps++c::p
 | [],_,h=>absurd rfl h
 | [q],p,_=>rfl
 | q::r::t,p,_=>by
   rw [List.cons_append,List.cons_append,zN,← List.cons_append,QV c (r::t) p (by simp),zN,List.append_assoc]; rfl
theorem kC (c:Nat) (hc:c<256) : ∀ (ps:List (List Nat)),(∀ p∈ps,∀ x∈p,x<256) → ∀ x∈zN c ps,x<256
 | [],_,x,h=>by cases h
 | [p],h,x,hx=>h p (by simp) x hx
 | p::q::r,h,x,hx=>by
   rw [zN] at hx
   rcases List.mem_append.1 hx with hx | hx
   · exact h p (by simp) x hx
   · rcases List.mem_cons.1 hx with rfl | hx
     · exact hc
     · exact kC c hc (q::r) (fun y hy=>h y (List.mem_cons_of_mem _ hy)) x hx
end Go.Proofs.YtigjingielnaoaaGreatDoor
namespace Go.Proofs.YtigjingielnaoaaGreatDoor
open Go.RowKit
def TextsAt (w:World) (v:Value) (ps:List (List Nat)):Prop := ∃ a cap,v = .slice a ps.length cap∧ps.length≤cap ∧ ∀ i,(hi:i<ps.length) → ∃ b off,a=some ⟨b,off,none⟩∧w.cell? ⟨b,off+i,none⟩=some (.string (zf ps[i]))
theorem kp {w:World} {b o:Nat} {u:Value} (h:w.cell? ⟨b,o,none⟩=some u):b<w.heap.size:=by
 rcases Nat.lt_or_ge b w.heap.size with h1 | h1
 · exact h1
 · rw [show w.cell? ⟨b,o,none⟩=none by simp [World.cell?,Array.getElem?_eq_none h1]] at h; cases h
theorem TextsAt.below {w w':World} {v:Value} {l:List (List Nat)} {B:Nat} (h:TextsAt w v l) (hb:Below B w w') (hB:w.heap.size≤B):TextsAt w' v l:=by
 obtain ⟨a,cap,e,hc,h⟩:=h
 refine ⟨a,cap,e,hc,fun i hi=>?_⟩
 obtain ⟨b,off,e2,h2⟩:=h i hi
 exact ⟨b,off,e2,(hb.cell (p:=⟨b,_,none⟩) (Nat.lt_of_lt_of_le (kp h2) hB)).trans h2⟩
theorem TextsAt.upd {w w':World} {v:Value} {l:List (List Nat)} (h:TextsAt w v l) (hu:Upd [] w w'):TextsAt w' v l:=h.below hu.below (Nat.le_refl _)
def yw (ps:List (List Nat)):List Value:=ps.map fun p => .string (zf p)
theorem Row.textsAt {w:World} {v:Value} {ps:List (List Nat)} (h:Row w 9 1 v ps.length (yw ps)):TextsAt w v ps:=by
 obtain ⟨a,cap,rfl⟩:=h.form
 rcases Nat.eq_zero_or_pos ps.length with h0 | h0
 · refine ⟨a,cap,rfl,by omega,fun i hi=>by omega⟩
 · obtain ⟨g,cap',hv,_,hc⟩:=h.form' h0
   simp only [Value.slice.injEq] at hv
   obtain ⟨rfl,_,rfl⟩:=hv
   exact ⟨_,_,rfl,hc,fun i hi=>⟨g,0,rfl,by rw [Nat.zero_add]; exact h.cell i (by unfold yw; rw [List.getElem?_map,List.getElem?_eq_getElem hi]; rfl)⟩⟩
theorem zc2:(Tryz.prog.info? 9).map (fun i=>(i.zero,i.size,i.bytes))=some (some (.string ByteArray.empty),1,16):=by kernel_rfl
end Go.Proofs.YtigjingielnaoaaGreatDoor
namespace Go.Proofs.YtigjingielnaoaaGreatDoor
open Go.RowKit
theorem zdH:(Tryz.prog.info? 5).map (fun x=>x.size)=some 1:=by kernel_rfl
set_option maxHeartbeats 2000000 in
set_option maxRecDepth 1000000 in
theorem zaP {T:TypeId} (hT:kq T) (B b n:Nat) (w:World) (hB:B≤b) (hbk:w.heap[b]? =some (.cells #[.pointer (some ⟨b,0,none⟩),.slice none 0 0] T (0,0))) (hBw:B≤w.heap.size) (hn:n≤281474976710656) :
 Calls Tryz.prog 113 #[.pointer (some ⟨b,0,none⟩),.int .i64 (n:Nat)] w fun e w'=>e = .returned (.tuple #[])∧Bld T B b [] w'∧Below B w w':=by
 obtain ⟨cs,hrun,hle,hmax⟩:=Lib.run_makeNoZero (P:=Tryz.prog) w.drew #[3] 87 5 Tryz.underlying87 n hn
 have hw:IntKind.i64.wrap (IntKind.i64.wrap 0+(n:Int))=n:=by
  rw [IntKind.wrap_i64,IntKind.wrap_i64]
  omega
 have hcall:(callFunc 154 #[.int .i64 (IntKind.i64.wrap (IntKind.i64.wrap 0+(n:Int)))]).run Tryz.prog w.drew = .ok (.value (.slice (some ⟨w.drew.heap.size,0,none⟩) n cs.size)) (w.drew.drew.drew.alloc (.cells cs 5)):=by
  rw [hw,run_callFunc_extern Tryz.func154 (by kernel_rfl) (by kernel_rfl) (by kernel_rfl) (e:=Extern.BytealgMakeNoZero.makeNoZero #[3] #[87]) (by kernel_rfl),hrun]
  rfl
 have hlt:b<w.heap.size:=by
  rcases Nat.lt_or_ge b w.heap.size with h' | h'
  · exact h'
  · simp [Array.getElem?_eq_none h'] at hbk
 have c1:w.drew.cell? ⟨b,1,none⟩=some (.slice none 0 0):=by
  have:w.drew.heap[b]? =_:=hbk
  rw [Lib.cell_of_heap this]; rfl
 have c2:(w.alloc (.cells cs 5)).cell? ⟨b,1,none⟩=some (.slice none 0 0):=by
  have:(w.alloc (.cells cs 5)).heap[b]? =_:=(Lib.alloc_old w _ b hlt).trans hbk
  rw [Lib.cell_of_heap this]; rfl
 have f2:(w.alloc (.cells cs 5)).frozen? ⟨b,1,none⟩=false:=Lib.frozen_of_heap ((Lib.alloc_old w _ b hlt).trans hbk) 1
 have hcopy : ∀ W:World,(Builtin.copy_ #[87,87] 3 #[.slice (some ⟨w.heap.size,0,none⟩) 0 cs.size,.slice none 0 0]).run Tryz.prog W = .ok (goInt 0) W :=
  fun W=>run_copy_none W 87 87 3 5 _ _ 0 cs.size 0 0 Tryz.underlying87 zdH rfl
 clear hw
 have hfin:=Lib.grown_fresh (T:=T) (e:=5) (cs:=cs) hB hbk hBw (hmax (by unfold maxLen; omega)) hT.2
 rw [World.setCell_alloc_past _ _ _ _ hlt] at hfin
 have HFIN:=Lib.hid hfin
 clear hfin
 go_enter Tryz.func113,Tryz.ntmps113
 go_wp2
 go_region
 all_goals (go_wp2; go_end0; exact ⟨rfl,.inr (.of HFIN.out.1),HFIN.out.2⟩)
set_option maxHeartbeats 2000000 in
set_option maxRecDepth 1000000 in
theorem zbx {T:TypeId} (hT:kq T) (B b n:Nat) (w:World) (hB:B≤b) (hbk:w.heap[b]? =some (.cells #[.pointer none,.slice none 0 0] T (0,0))) (hBw:B≤w.heap.size) (hn:n≤281474976710656) (hn0:0<n) :
 Calls Tryz.prog 74 #[.pointer (some ⟨b,0,none⟩),.int .i64 (n:Nat)] w fun e w'=>e = .returned (.tuple #[])∧Bld T B b [] w'∧Below B w w':=by
 have hbk1:(w.setCell ⟨b,0,none⟩ (.pointer (some ⟨b,0,none⟩))).heap[b]? =some (.cells #[.pointer (some ⟨b,0,none⟩),.slice none 0 0] T (0,0)):=by
  simp [World.setCell,Array.getElem?_modify,hbk]
 have c1:(w.setCell ⟨b,0,none⟩ (.pointer (some ⟨b,0,none⟩))).cell? ⟨b,1,none⟩=some (.slice none 0 0):=by rw [Lib.cell_of_heap hbk1]; rfl
 have HL:=Lib.hid ((Below.refl B w).setCell (p:=⟨b,0,none⟩) hB (.pointer (some ⟨b,0,none⟩)))
 have HCC:=Lib.hid (kJ hT b w (by rw [Lib.cell_of_heap hbk]; rfl) (by simp [World.shape?,hbk]) (Lib.frozen_of_heap hbk 0))
 have HB1:=Lib.hid hbk1
 have hBw1:B≤(w.setCell ⟨b,0,none⟩ (.pointer (some ⟨b,0,none⟩))).heap.size:=by rw [World.size_setCell]; exact hBw
 have hnz : ¬ (n:Int)<0:=by omega
 have hnz2:(0:Int)<(n:Int):=by omega
 clear hbk hbk1
 go_enter Tryz.func74,Tryz.ntmps74
 go_wp2_with fail
 refine HCC.out.mono ?_
 rintro e w' ⟨rfl,rfl⟩
 go_wp2
 generalize w.setCell ⟨b,0,none⟩ (.pointer (some ⟨b,0,none⟩))=w1 at *
 go_quiet (fail)
 rename_i nq
 have HG:=Lib.hid (zaP hT B b n (w1.drewN nq) hB HB1.out hBw1 hn)
 go_wp2_with fail
 refine HG.out.mono ?_
 rintro e w2 ⟨rfl,h1,h2⟩
 go_wp2
 go_end0
 exact ⟨rfl,h1,HL.out.trans (((Upd.refl [] w1).drewN nq).belowB hBw1 |>.trans h2)⟩
end Go.Proofs.YtigjingielnaoaaGreatDoor
namespace Go.Proofs.YtigjingielnaoaaGreatDoor
open Go.RowKit
def qr (ps:List (List Nat)):Nat:=(ps.map List.length).sum
theorem Ja (ps:List (List Nat)) (p:List Nat):qr (ps++[p])=qr ps+p.length:=by simp [qr]
theorem zaI (ps:List (List Nat)) (k:Nat):qr (ps.take k)≤qr ps:=by
 conv=>rhs; rw [← List.take_append_drop k ps]
 unfold qr
 rw [List.map_append,List.sum_append_nat]
 omega
theorem jF (c:Nat) : ∀ ps:List (List Nat),(zN c ps).length=qr ps+(ps.length-1)
 | []=>rfl
 | [p]=>by simp [zN,qr]
 | p::q::r=>by
   have ih:=jF c (q::r)
   rw [zN,List.length_append,List.length_cons,ih]
   simp [qr]; omega
theorem Yg:kq 109:=⟨by kernel_rfl,by decide⟩
set_option maxRecDepth 100000 in
set_option maxHeartbeats 3200000 in
theorem za5 (ps:List (List Nat)) (c:UInt8) (v:Value) (w:World) (h:TextsAt w v ps) (hps : ∀ p∈ps,∀ x∈p,x<256) (hn:ps.length≤1000) (ht:qr ps≤100000000) :
 Calls Tryz.prog 37 #[v,.string { data := #[c] }] w fun e w'=>e = .returned (.string (zf (zN c.toNat ps)))∧Upd [] w w':=by
 obtain ⟨a,cap,rfl,hcap,h⟩:=h
 have H:=Lib.hid h
 have HPS:=Lib.hid hps
 clear h hps
 obtain ⟨n,hnn⟩ : ∃ n,ps.length=n:=⟨_,rfl⟩
 have hcb:c.toNat<256:=c.toNat_lt
 rw [hnn] at hn hcap ⊢
 have HN:=Lib.hid hnn
 have HTT:=Lib.hid (zaI ps)
 by_cases h0:n=0
 · have HE:Hid (zf (zN c.toNat ps) = .empty):=Lib.hid (by rw [List.eq_nil_of_length_eq_zero (hnn.trans h0)]; rfl)
   subst h0
   clear hnn
   go_enter Tryz.func37,Tryz.ntmps37
   go_wp2
   go_ret
   exact ⟨by rw [HE.out]; rfl,Upd.refl _ _⟩
 by_cases h1:n=1
 · have HE:Hid (zN c.toNat ps=ps[0]'(by omega)):=Lib.hid (by
    match ps,hnn with
    | [p],_=>rfl
    | [],e=>exact absurd e.symm h0
    | p::q::r,e=>simp at e; omega)
   obtain ⟨b,off,rfl,hc⟩:=H.out 0 (by omega)
   rw [Nat.add_zero] at hc
   rw [← HE.out] at hc
   clear HE HN
   subst h1
   clear h0 H
   have HNN:=Lib.hid hnn
   clear hnn
   go_enter Tryz.func37,Tryz.ntmps37
   go_wp2
   go_ret
   exact ⟨rfl,Upd.refl _ _⟩
 · obtain ⟨b,off,rfl,hc0⟩:=H.out 0 (by omega)
   have H2:Hid (∀ i,(hi:i<ps.length)→w.cell? ⟨b,off+i,none⟩=some (.string (zf ps[i]))):=Lib.hid (fun i hi=>by
    obtain ⟨b2,o2,e,h2⟩:=H.out i hi
    simp only [Option.some.injEq,Addr.mk.injEq,and_true] at e
    obtain ⟨rfl,rfl⟩:=e
    exact h2)
   have hq : ¬ (9223372036854775807:Int)/((n:Int)-1)≤1:=by
    have:(2:Int)≤9223372036854775807/((n:Int)-1):=(Int.le_ediv_iff_mul_le (by omega)).2 (by omega)
    omega
   have h0z:((n:Int)==0)=false:=by rw [beq_eq_false_iff_ne]; omega
   have h1z:((n:Int)==1)=false:=by rw [beq_eq_false_iff_ne]; omega
   have hn1:(0:Int)≤(n:Int)-1:=by omega
   have hn2:(n:Int)-1≤1000:=by omega
   have hn2b:(n:Int)≤1000:=by omega
   have hpos:1<n:=by omega
   have hposz:(1:Int)≤(n:Int):=by omega
   have hcapz:(n:Int)≤(cap:Int):=by omega
   clear hnn h0 h1 H hc0
   go_enter Tryz.func37,Tryz.ntmps37
   go_wp2
   go_loopg [5,41] n (fun gg s5 s41 wr => ∃ i,i≤n∧gg=n-i∧s41 = .int .i64 (i:Nat) ∧ ∃ m:Nat,s5 = .int .i64 (m:Nat)∧Hid (m+1=n+qr (ps.take i))∧Hid (wr=w))
   case atStart=>exact ⟨0,Nat.zero_le _,rfl,rfl,n-1,by rw [show ((n-1:Nat):Int)=(n:Int)-1 by omega],Lib.hid (by simp [qr]; omega),Lib.hid rfl⟩
   case round =>
    obtain ⟨i,hin,rfl,rfl,m,rfl,HM,HW⟩:=hrel
    have hwr:=HW.out.symm
    subst hwr
    clear HW
    have htk:=HTT.out i
    have hml:m≤200000000:=by have:=HM.out; omega
    by_cases hc:i<n
    · have hcz:(i:Int)<(n:Int):=by omega
      have hil:i<ps.length:=by rw [HN.out]; exact hc
      have hce:=H2.out i hil
      have hsz:(zf ps[i]).size=ps[i].length:=zh _
      have hM2:Hid (m+(zf ps[i]).size+1=n+qr (ps.take (i+1))):=Lib.hid (by
       rw [List.take_succ_eq_append_getElem hil,Ja,hsz,← Nat.add_assoc,← HM.out]; omega)
      have hle:(zf ps[i]).size≤100000000:=by
       have h1:=HTT.out (i+1)
       rw [List.take_succ_eq_append_getElem hil,Ja] at h1
       omega
      clear hsz
      generalize zf ps[i]=S at *
      have hov : ¬ 9223372036854775807-(m:Int)<(S.size:Int):=by omega
      go_wp2
      go_roundg (n-(i+1))
      · exact ⟨i+1,by omega,rfl,by first | rfl | go_num,m+S.size,by first | rfl | go_num,hM2,Lib.hid rfl⟩
      · omega
    · have hcz : ¬ (i:Int)<(n:Int):=by omega
      have hni:i=n:=by omega
      subst hni
      have hm0:0<m:=by have:=HM.out; omega
      have HGR:=Lib.hid (zbx Yg w.heap.size w.heap.size m (w.alloc (.cells #[.pointer none,.slice none 0 0] 109)) (Nat.le_refl _) (heap_alloc_new w _) (by simp) (by omega) hm0)
      have hil0:0<ps.length:=by rw [HN.out]; omega
      have hce:=H2.out 0 hil0
      rw [Nat.add_zero] at hce
      obtain ⟨S0,hS0⟩ : ∃ S,S=zf ps[0]:=⟨_,rfl⟩
      rw [← hS0] at hce
      have hb0:ze S0=zN c.toNat (ps.take 1):=by
       rw [hS0,zz _ (HPS.out _ (List.getElem_mem hil0)),List.take_succ_eq_append_getElem hil0]; rfl
      have hs0:S0.size≤100000000:=by
       have h1:=HTT.out 1
       rw [List.take_succ_eq_append_getElem hil0] at h1
       rw [hS0,zh]
       simp [qr] at h1 ht
       omega
      have HWS:=Lib.hid (fun (w9:World) h9 h8=>qK Yg w.heap.size w.heap.size [] S0 w9 h9 (by simp; omega) h8)
      rw [List.nil_append,hb0] at HWS
      clear hS0 hb0 hs0 hil0 HM htk hml
      go_wp2_with fail
      refine HGR.out.mono ?_
      rintro e w1 ⟨rfl,hB1,hL1⟩
      have HB1:=Lib.hid hB1
      have HL1:=Lib.hid (((Below.refl w.heap.size w).alloc (Nat.le_refl _) (.cells #[.pointer none,.slice none 0 0] 109)).trans hL1)
      clear hB1 hL1 HGR
      have hbB:=kp hce
      have hce1:=(HL1.out.cell (p:=⟨b,off,none⟩) (kp hce)).trans hce
      go_wp2_with fail
      refine (HWS.out _ HB1.out HL1.out.size).mono ?_
      rintro e w2 ⟨rfl,hB2,hL2⟩
      have HB2:=Lib.hid hB2
      have HL2:=Lib.hid (HL1.out.trans hL2)
      clear hB2 hL2 HB1 HL1 HWS hce hce1
      have hcapb:1<cap:=by omega
      have hcapc:(1:Int)≤(cap:Int):=by omega
      have hcapd:(cap==1)=false:=by rw [beq_eq_false_iff_ne]; omega
      have hcape : ¬ cap=1:=by omega
      go_wp2
      go_loopg [65] (i-1) (fun gg s65 wq => ∃ j,j≤i-1∧gg=i-1-j∧s65 = .int .i64 (j:Nat)∧Hid (Bld 109 w.heap.size w.heap.size (zN c.toNat (ps.take (j+1))) wq)∧Hid (Below w.heap.size w wq))
      case atStart=>exact ⟨0,Nat.zero_le _,rfl,rfl,HB2,HL2⟩
      case round =>
       clear HB2 HL2
       obtain ⟨j,hjn,rfl,rfl,HB,HL⟩:=hrel
       by_cases hj:j<i-1
       · have hjz:(j:Int)<((i-1:Nat):Int):=by omega
         have hjz2:(j:Int)<(i:Int)-1:=by omega
         have hil:j+1<ps.length:=by rw [HN.out]; omega
         have hce:=(HL.out.cell (p:=⟨b,off+(j+1),none⟩) hbB).trans (H2.out (j+1) hil)
         have hT:ps.take (j+1+1)=ps.take (j+1)++[ps[j+1]]:=List.take_succ_eq_append_getElem hil
         have hne:ps.take (j+1)≠[]:=by intro e; have:=congrArg List.length e; rw [List.length_take,HN.out,List.length_nil] at this; omega
         have hJ:zN c.toNat (ps.take (j+1+1))=zN c.toNat (ps.take (j+1))++[c.toNat]++ps[j+1]:=by rw [hT,QV _ _ _ hne,List.append_assoc]; rfl
         have hbj:ze (zf ps[j+1])=ps[j+1]:=zz _ (HPS.out _ (List.getElem_mem hil))
         have hlen1:(zN c.toNat (ps.take (j+1))).length≤100001000:=by
          rw [jF]
          have:=HTT.out (j+1)
          rw [List.length_take]
          omega
         have hlen2:(zf ps[j+1]).size≤100000000:=by
          have h1:=HTT.out (j+1+1)
          rw [hT,Ja] at h1
          rw [zh]; omega
         have hbc:ze ({ data := #[c] }:ByteArray)=[c.toNat]:=rfl
         have HW1:=Lib.hid (fun (w9:World) h9 h8=>qK Yg w.heap.size w.heap.size (zN c.toNat (ps.take (j+1))) ({ data := #[c] }:ByteArray) w9 h9 (by show _+1≤_; omega) h8)
         have HW2:=Lib.hid (fun (w9:World) h9 h8=>qK Yg w.heap.size w.heap.size (zN c.toNat (ps.take (j+1))++[c.toNat]) (zf ps[j+1]) w9 h9 (by rw [List.length_append]; simp; omega) h8)
         rw [hbc] at HW1
         rw [hbj,← hJ] at HW2
         clear hJ hbj hlen1 hlen2 hT hne hbc
         generalize zf ps[j+1]=S at *
         rw [show off+(j+1)=off+1+j by omega] at hce
         have HCE:=Lib.hid hce
         go_wp2_with fail
         refine (HW1.out _ HB.out (by have:=HL.out.size; omega)).mono ?_
         rintro e w3 ⟨rfl,hB3,hL3⟩
         have HB3:=Lib.hid hB3
         have HL3:=Lib.hid (HL.out.trans hL3)
         clear hB3 hL3 HB HL hce
         go_wp2_with fail
         refine (HW2.out _ HB3.out (by have:=HL3.out.size; omega)).mono ?_
         rintro e w4 ⟨rfl,hB4,hL4⟩
         have HB4:=Lib.hid hB4
         have HL4:=Lib.hid (HL3.out.trans hL4)
         clear hB4 hL4 HB3 HL3 HCE HW1 HW2
         go_wp2
         go_roundg (i-1-(j+1))
         · exact ⟨j+1,by omega,rfl,by first | rfl | go_num,HB4,HL4⟩
         · omega
       · have hjz : ¬ (j:Int)<((i-1:Nat):Int):=by omega
         have hjz2 : ¬ (j:Int)<(i:Int)-1:=by omega
         have hji:j+1=i:=by omega
         have HT:Hid (ps.take (j+1)=ps):=Lib.hid (List.take_of_length_le (by rw [HN.out]; omega))
         rw [HT.out] at HB
         have HK:=Lib.hid (YK w.heap.size w.heap.size (zN c.toNat ps) wr HB.out (by intro e; have:=congrArg List.length e; rw [jF,HN.out] at this; simp at this; omega) (kC c.toNat hcb ps HPS.out))
         go_wp2_with fail
         refine HK.out.mono ?_
         rintro e w5 ⟨rfl,hL5⟩
         go_wp2
         go_ret
         refine ⟨rfl,Upd.of_below ?_⟩
         exact HL.out.trans hL5
end Go.Proofs.YtigjingielnaoaaGreatDoor
namespace Go.Proofs.YtigjingielnaoaaGreatDoor
open Go.RowKit
theorem zeO (m:Nat) (h:m<4294967296):bits .and .u32 (m:Int) 15=((m%16:Nat):Int):=by
 show IntKind.u32.wrap ((BitVec.ofInt 32 (m:Int) &&& BitVec.ofInt 32 15).toNat:Int)=_
 rw [BitVec.toNat_and,yH 32 m (by omega),show (BitVec.ofInt 32 15).toNat=2^4-1 from rfl,Nat.and_two_pow_sub_one_eq_mod]
 show ((m%16:Nat):Int)%4294967296=_
 omega
def QN (n k i:Nat):List Nat:=List.replicate (k-i) 0++yC n i
theorem zcL (n k i:Nat) (h:i≤k):(QN n k i).length=k:=by unfold QN; rw [List.length_append,qB,List.length_replicate]; omega
theorem zbu (n k i:Nat) (h:i<k):(QN n k i).set (k-1-i) (ZA (n/16^i%16))=QN n k (i+1):=by
 unfold QN
 rw [Jl,show k-i=(k-(i+1))+1 by omega,List.replicate_succ',List.append_assoc,List.set_append_right _ _ (by simp; omega)]
 simp
 rw [show k-1-i-(k-(i+1))=0 by omega]
 rfl
set_option maxRecDepth 100000 in
set_option maxHeartbeats 1600000 in
theorem Qb (n k:Nat) (w:World) (hn:n<4294967296) (hk:k≤20):Calls Tryz.prog 81 #[.int .u32 (n:Nat),.int .i64 (k:Nat)] w fun e w'=>e = .returned (.string (zf (yC n k)))∧Upd [] w w':=by
 have hmk:=fun w=>run_make_row' (P:=Tryz.prog) 87 5 (.int .u8 0) 1 Tryz.underlying87 infoByte rfl .i64 .i64 k (by omega) (by omega) (w:=w)
 go_enter Tryz.func81,Tryz.ntmps81
 go_wp2
 have hB0:Blk (w.alloc (.cells (madeCells #[.int .u8 0] k) 5)) w.heap.size (u8s (QN n k 0)) 5:=by
  have:=heap_alloc_new w (.cells (madeCells #[.int .u8 0] k) 5)
  unfold Blk
  rw [this]
  congr 2
  apply Array.ext
  · simp [madeCells,u8s,QN,yC]
  · intro j h1 h2
    simp [madeCells,u8s,QN,yC,Nat.mod_one]
 have hU0:Upd [] w (w.alloc (.cells (madeCells #[.int .u8 0] k) 5)):=(Upd.refl [] w).alloc _
 generalize w.alloc (.cells (madeCells #[.int .u8 0] k) 5)=w0 at *
 obtain ⟨b0,hb0⟩ : ∃ b0,w.heap.size=b0:=⟨_,rfl⟩
 rw [hb0] at hB0 ⊢
 have HB:=Lib.hid (show w.heap.size≤b0 by omega)
 have HB0:=Lib.hid hB0
 have HU0:=Lib.hid hU0
 clear hb0 hmk hB0 hU0
 go_loopg [0,11] k (fun g s0 s11 wr => ∃ i,i≤k∧g=k-i∧s11 = .int .i64 (i:Nat) ∧ ∃ m:Nat,s0 = .int .u32 (m:Nat)∧Hid (m=n/16^i)∧m≤n∧Hid (Blk wr b0 (u8s (QN n k i)) 5)∧Hid (Upd [] w wr))
 case atStart=>exact ⟨0,by omega,rfl,rfl,n,rfl,Lib.hid (by simp),Nat.le_refl _,HB0,HU0⟩
 case round =>
  obtain ⟨i,hi,rfl,rfl,m,rfl,HM,hmn,hB,hU⟩:=hrel
  clear HB0 HU0
  by_cases hc9:i<k
  · have hcz:(i:Int)<(k:Int):=by omega
    have HST:=Lib.hid (zbu n k i hc9)
    rw [← HM.out] at HST
    have hln:=zcL n k i hi
    have hix:k-1-i<k:=by omega
    have hcast:(k:Int)-1-(i:Int)=((k-1-i:Nat):Int):=by omega
    have hj0:(0:Int)≤(k:Int)-1-(i:Int):=by omega
    have hj1:(k:Int)-1-(i:Int)<(k:Int):=by omega
    have hjn:((k:Int)-1-(i:Int)).toNat=k-1-i:=by omega
    obtain ⟨u,hu⟩ : ∃ u,(u8s (QN n k i))[k-1-i]? =some u:=⟨_,List.getElem?_eq_getElem (by rw [u8s,List.length_map,hln]; exact hix)⟩
    have c1:=hB.out.cell (k-1-i) hu
    clear hu
    have f1:=hB.out.frz (k-1-i)
    have hd16:m%16<16:=Nat.mod_lt _ (by decide)
    have hand:bits .and .u32 (m:Int) 15=((m%16:Nat):Int):=zeO m (by omega)
    have hsz:({ data := #[48,49,50,51,52,53,54,55,56,57,97,98,99,100,101,102] }:ByteArray).size=16:=rfl
    obtain ⟨dd,hdd⟩ : ∃ dd,m%16=dd:=⟨_,rfl⟩
    rw [hdd] at HST hand hd16
    have hgt:=zbD dd hd16
    unfold Xf at hgt
    have HDD:=Lib.hid hdd
    clear hdd
    have HM2:Hid (m/16=n/16^(i+1)):=Lib.hid (by rw [HM.out,Nat.div_div_eq_div_mul,Nat.pow_succ])
    have hm16:m/16≤n:=by omega
    clear hln hcast
    go_wp2
    go_roundg (k-(i+1))
    · exact ⟨i+1,by omega,rfl,by first | rfl | go_num,m/16,by first | rfl | go_num,HM2,hm16,Lib.hid (by rw [← HST.out,← Zv]; exact hB.out.set _ _),Lib.hid (hU.out.setCell (.inr HB.out) _)⟩
    · omega
  · have hcz : ¬ (i:Int)<(k:Int):=by omega
    have h9:i=k:=by omega
    subst h9
    have hB2:=hB.out
    unfold QN at hB2
    rw [Nat.sub_self,List.replicate_zero,List.nil_append] at hB2
    have hcv2:=hB2.conv (P:=Tryz.prog) (c:=i) (qB i n) Tryz.underlying87 Tryz.underlying5 Tryz.underlying9
    clear hB2
    go_wp2
    go_ret
    exact ⟨rfl,hU.out⟩
theorem ve (ps:List (List Nat)) (v:Value) (w:World) (h:TextsAt w v ps) (hps : ∀ p∈ps,∀ x∈p,x<256) (hn:ps.length≤1000) (ht:qr ps≤100000000) :
 Calls Tryz.prog 41 #[v] w fun e w'=>e = .returned (.string (zf (zN 32 ps)))∧Upd [] w w':=by
 have HJ:=Lib.hid (za5 ps 32 v w h hps hn ht)
 obtain ⟨a,cap,rfl,_⟩:=h
 go_enter Tryz.func41,Tryz.ntmps41
 go_wp2_with fail
 refine HJ.out.mono ?_
 rintro e w1 ⟨rfl,hu⟩
 go_wp2
 go_ret
 exact ⟨rfl,hu⟩
end Go.Proofs.YtigjingielnaoaaGreatDoor
