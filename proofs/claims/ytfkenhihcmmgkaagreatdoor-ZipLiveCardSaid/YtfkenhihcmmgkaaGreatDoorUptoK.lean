/- For the second form's statements: what the bound gives; a witness in a world that holds tables; records that came in, opened. -/
import Derived.Deep.DeepHandedRow
import Derived.Stop.Joined
import Derived.LaidMore
import Derived.Lay
import Derived.Test.YtfkenhihcmmgkaaGreatDoorQBG
import Derived.Test.YtfkenhihcmmgkaaGreatDoorQAT
set_option linter.unusedVariables false
set_option linter.unusedSimpArgs false
set_option linter.unusedSectionVars false
set_option maxRecDepth 100000
namespace Go.Proofs.YtfkenhihcmmgkaaGreatDoor
open Go.ChangeShapes Go.WideShapes Go.ChangeAt Go.RowKit Go.Deep
theorem Vm {H:Type} {d:DataW H} {l:List (DataW H)} (h:d∈l):Rows.uptoBulk d≤Rows.uptoBulkAll l:=by
 induction l with
 | nil=>cases h
 | cons x r ih =>
   simp only [Rows.uptoBulkAll];rcases List.mem_cons.1 h with e | e
   · subst e; omega
   · have:=ih e; omega
theorem zfB {H:Type} {d:DataW H} {elems spare:List (DataW H)} (h:d∈elems):Rows.uptoBulk d≤Rows.uptoBulk (.slice elems spare):=by
 have:=Vm h;simp only [Rows.uptoBulk];omega
theorem zdd {H:Type} {d:DataW H} {parts:List (DataW H)} (h:d∈parts):Rows.uptoBulk d≤Rows.uptoBulk (.agg parts):=by
 have:=Vm h;simp only [Rows.uptoBulk];omega
theorem zgR {H:Type} (bytes:List UInt8):Rows.uptoBulk (DataW.lit (H:=H) (.string bytes))=bytes.length+1:=by simp [Rows.uptoBulk]
section
variable {H:Type} {enc:TypeId×Value→H} {W:World} {base:Nat} {spare:Nat→Bool} {held:Bool}
theorem zj4 {fuel:Nat} {cs:List Value} {x:DataW H×List MemPlace} (h:DataW.trod enc Tryz.prog W base spare held fuel 26 cs=some x) : ∃ r:RecD,cs=r.cells∧r.p.size≤Rows.uptoBulk x.1∧r.p.size≤maxLen∧r.sum<4294967296∧r.t<4294967296:=by
 obtain ⟨ys,k,_,hx,hcl,hyl,hfs⟩:=DataW.trod_struct Tryz.underlying26 h;have cR:Tryz.prog.cellsOf 26=9:=by kernel_rfl
 have cI:Tryz.prog.cellsOf 3=1:=by kernel_rfl
 have cU:Tryz.prog.cellsOf 24=1:=by kernel_rfl
 have cS:Tryz.prog.cellsOf 9=1:=by kernel_rfl
 rw [cR] at hcl;obtain ⟨u0,u1,u2,u3,u4,u5,u6,u7,u8,rfl⟩ : ∃ u0 u1 u2 u3 u4 u5 u6 u7 u8,cs=[u0,u1,u2,u3,u4,u5,u6,u7,u8]:=by
  match cs,hcl with
  | [u0,u1,u2,u3,u4,u5,u6,u7,u8],_=>exact ⟨u0,u1,u2,u3,u4,u5,u6,u7,u8,rfl⟩
 have hyl2:ys.length=9:=hyl;have f0:=hfs 0 _ rfl;have f1:=hfs 1 _ rfl;have f2:=hfs 2 _ rfl;have f3:=hfs 3 _ rfl;have f4:=hfs 4 _ rfl;have f5:=hfs 5 _ rfl;have f6:=hfs 6 _ rfl;have f7:=hfs 7 _ rfl;have f8:=hfs 8 _ rfl;rw [List.getElem?_eq_getElem (by omega)] at f0 f1 f2 f3 f4 f5 f6 f7 f8;simp only [List.getElem_toArray,List.getElem_cons_zero,List.getElem_cons_succ] at f0 f1 f2 f3 f4 f5 f6 f7 f8;rw [cS] at f0;rw [cI] at f1 f3 f4 f5 f6 f8;rw [cU] at f2 f7;simp only [List.drop_zero,List.drop_succ_cons,List.take_succ_cons,List.take_zero] at f0 f1 f2 f3 f4 f5 f6 f7 f8;obtain ⟨n0,e0,x0,w0⟩:=DataW.trod_string Tryz.underlying9 f0;obtain ⟨n1,e1,_,w1⟩:=DataW.trod_int Tryz.underlying3 f1;obtain ⟨n2,e2,_,w2⟩:=DataW.trod_int Tryz.underlying24 f2;obtain ⟨n3,e3,_,w3⟩:=DataW.trod_int Tryz.underlying3 f3;obtain ⟨n4,e4,_,w4⟩:=DataW.trod_int Tryz.underlying3 f4;obtain ⟨n5,e5,_,w5⟩:=DataW.trod_int Tryz.underlying3 f5;obtain ⟨n6,e6,_,w6⟩:=DataW.trod_int Tryz.underlying3 f6;obtain ⟨n7,e7,_,w7⟩:=DataW.trod_int Tryz.underlying24 f7;obtain ⟨n8,e8,_,w8⟩:=DataW.trod_int Tryz.underlying3 f8;simp only [List.cons.injEq,and_true] at e0 e1 e2 e3 e4 e5 e6 e7 e8;subst e0 e1 e2 e3 e4 e5 e6 e7 e8;have b2:0≤n2∧n2≤4294967295:=by simpa [Lit.wf,IntKind.min,IntKind.max,IntKind.signed,IntKind.bits] using w2
 have b7:0≤n7∧n7≤4294967295:=by simpa [Lit.wf,IntKind.min,IntKind.max,IntKind.signed,IntKind.bits] using w7
 refine ⟨⟨n0,n1,n2.toNat,n3,n4,n5,n6,n7.toNat,n8⟩,?_,?_,w0,by dsimp only; omega,by dsimp only; omega⟩
 · unfold RecD.cells;dsimp only;rw [show ((n2.toNat:Nat):Int)=n2 by omega,show ((n7.toNat:Nat):Int)=n7 by omega]
 · have hm:(ys[0]'(by omega)).1∈ys.map (·.1):=List.mem_map.2 ⟨ys[0]'(by omega),List.getElem_mem _,rfl⟩;have hb:=zdd (H:=H) hm;rw [x0] at hb;dsimp only at hb;rw [zgR] at hb;rw [hx];have e:n0.size=n0.data.toList.length:=(by simp);dsimp only;rw [e];exact Nat.le_trans (Nat.le_succ _) hb
theorem ziC {fuel:Nat} {a:Option Addr} {len cap:Nat} {x:DataW H×List MemPlace} (h:DataW.trod enc Tryz.prog W base spare held fuel 22 [.slice a len cap]=some x) :
 len≤cap∧cap≤maxLen ∧ ∃ l:List RecD,l.length=len∧RecsAt W (.slice a len cap) l ∧ ∀ r∈l,r.p.size≤Rows.uptoBulk x.1∧r.p.size≤maxLen∧r.sum<4294967296∧r.t<4294967296:=by
 have cR:Tryz.prog.cellsOf 26=9:=by kernel_rfl
 rcases open_slice Tryz.underlying22 h with ⟨hc,hx⟩ | ⟨ad,l',c,m,n,D,Pl,hc,_,hl,hm,hmm,hx,hel⟩
 · simp at hc;obtain ⟨rfl,rfl,rfl⟩:=hc;exact ⟨Nat.le_refl _,Nat.zero_le _,[],rfl,⟨none,0,rfl,fun i hi=>by simp at hi⟩,fun r hr=>by cases hr⟩
 · simp at hc;obtain ⟨rfl,rfl,rfl⟩:=hc;refine ⟨hl,hm,?_⟩;have hlm:len≤m:=(by rw [hmm]; split<;>omega);have hE : ∀ i,∃ r:RecD,i<len→(∃ b off,ad=⟨b,off,none⟩ ∧ ∀ f u,r.cells[f]? =some u→W.cell? ⟨b,off+i*9+f,none⟩=some u)∧r.p.size≤Rows.uptoBulk x.1∧r.p.size≤maxLen∧r.sum<4294967296∧r.t<4294967296:=fun i=>by
    by_cases hi:i<len
    · obtain ⟨cs,hcs,htr⟩:=hel i (by omega);obtain ⟨_,hlen,hcell⟩:=World.cells?_some hcs;rw [cR] at hlen hcell hcs;obtain ⟨b,off,rfl⟩ : ∃ b off,ad=⟨b,off,none⟩:=by
       obtain ⟨cs0,hcs0,_⟩:=hel 0 (by omega);obtain ⟨_,hlen0,hcell0⟩:=World.cells?_some hcs0;rw [cR] at hlen0;have c0:=hcell0 0 (by rw [cR]; omega);rw [Nat.zero_mul,add_zero,add_zero,List.getElem?_eq_getElem (by omega)] at c0;exact zef c0
      obtain ⟨r,hr,hb,hr2⟩:=zj4 htr;refine ⟨r,fun _=>⟨⟨b,off,rfl,fun f u hu=>?_⟩,Nat.le_trans hb ?_,hr2⟩⟩
      · have hf:f<9:=by
         have:=(List.getElem?_eq_some_iff.1 hu).1;exact this
        have:=hcell f hf;rw [jf,jf] at this;rw [this,hr]; exact hu
      · rw [hx];exact zfB (List.mem_map.2 ⟨i,List.mem_range.2 hi,rfl⟩)
    · exact ⟨qJ,fun h=>absurd h hi⟩
   obtain ⟨f,hf⟩:=Classical.skolem.1 hE;refine ⟨(List.range len).map f,by simp,⟨some ad,cap,by simp,fun i hi=>?_⟩,fun r hr=>?_⟩
   · have hi2:i<len:=(by simpa using hi);obtain ⟨⟨b,off,e,h2⟩,_⟩:=hf i hi2;refine ⟨b,off,by rw [e],fun g u hu=>h2 g u ?_⟩;simpa using hu
   · obtain ⟨i,hi,rfl⟩:=List.mem_map.1 hr;exact (hf i (List.mem_range.1 hi)).2
end
end Go.Proofs.YtfkenhihcmmgkaaGreatDoor
