/- A map of texts that counts, which the call makes: its laws in the words of Mem, of whatever program. -/
import Derived.Maps.OwnOps
import Derived.Maps.Views
import Derived.Maps.OwnSet
import Derived.Test.YtigjingielnaoaaGreatDoorQAA
import Derived.WalkKit
import Derived.Handy
import Derived.Outline
import Derived.BigQuiet
import Derived.Deep.CutBlock
import Derived.Deep.DeepCutAuto
import Derived.Deep.DeepFit
import Derived.Deep.Light
import Derived.Deep.LoopGhost
import Derived.Deep.QuietTactic
import Derived.Deep.RegionHeld3
import Derived.Deep.RegionLaw
import Derived.IntWalk
import Derived.Laws.BitsAllLaws
import Derived.Lib.MinMax
import Derived.StillTailTactics
import Derived.WalkSpells
import Derived.Lib.Hide
import Derived.Test.YtigjingielnaoaaGreatDoorCRd
import Derived.Test.YtigjingielnaoaaGreatDoorQAZ
import Derived.Test.YtigjingielnaoaaGreatDoorQAM
set_option linter.unusedVariables false
set_option linter.unusedSimpArgs false
set_option linter.unusedSectionVars false
namespace Go.Proofs.YtigjingielnaoaaGreatDoor
open Go.RowKit Go.Maps Go.WideMaps
theorem Kc {H:Type} {P:Program} {k:TypeId} {R:Value→Option (DataW H×List MemPlace)} {w w':World} {b n:Nat} {D:DataW H} {fp:List Nat} (h:w.ownsMap P k R b n D) (hu:Upd fp w w') (hn:b∉fp):w'.ownsMap P k R b n D:=by
 have hlt:=h.lt
 obtain ⟨es,clock,hb,F⟩:=h
 exact ⟨es,clock,(hu.block b hlt hn).trans hb,F⟩
def CntMap (P:Program) (k e:TypeId) (w:World) (b n:Nat) (f:List UInt8→Nat):Prop :=
 ∃ D:DataW Unit,w.ownsMap P k (plainElem P e) b n D ∧ ∀ p,D.atKey (.string p) (.lit (.int .i64 0)) = .lit (.int .i64 (f p:Nat))
variable {P:Program} {k e t:TypeId}
theorem CntMap.new (w:World):CntMap P k e (w.alloc (.map #[] 0)) w.heap.size 0 (fun _=>0) :=
 ⟨.map [],World.ownsMap_made _ _ _ _,fun p=>rfl⟩
theorem CntMap.upd {w w':World} {b n:Nat} {f:List UInt8→Nat} {fp:List Nat} (h:CntMap P k e w b n f) (hu:Upd fp w w') (hn:b∉fp):CntMap P k e w' b n f:=by
 obtain ⟨D,h1,h2⟩:=h
 exact ⟨D,Kc h1 hu hn,h2⟩
theorem CntMap.alloc {w:World} {b n:Nat} {f:List UInt8→Nat} (h:CntMap P k e w b n f) (o:Obj):CntMap P k e (w.alloc o) b n f:=h.upd ((Upd.refl [] w).alloc o) (by simp)
theorem CntMap.drew {w:World} {b n:Nat} {f:List UInt8→Nat} (h:CntMap P k e w b n f):CntMap P k e w.drew b n f:=h.upd (Upd.refl [] w).drew (by simp)
theorem CntMap.lt {w:World} {b n:Nat} {f:List UInt8→Nat} (h:CntMap P k e w b n f):b<w.heap.size:=by obtain ⟨D,h1,_⟩:=h; exact h1.lt
theorem CntMap.look {w:World} {b n:Nat} {f:List UInt8→Nat} (h:CntMap P k e w b n f) (hk:P.underlying k=some .string) (ht:P.underlying t=some (.map k e)) (he:P.underlying e=some (.int .i64)) (hz:(zeroValue e).run P w = .ok (.int .i64 0) w) (s:ByteArray) (hs:s.size≤maxLen) :
 (Instr.lookup t (.map (some b)) (.string s) false).run P w = .ok (.int .i64 (f s.data.toList:Nat)) w:=by
 obtain ⟨D,h1,h2⟩:=h
 obtain ⟨c,hrun,hat,_⟩:=h1.lookup_int (string_keyed hk) ht he hz (keyOf_string_mk hk hs)
 rw [h2] at hat
 simp only [DataW.lit.injEq,Lit.int.injEq,true_and] at hat
 rw [hrun,← hat]
theorem CntMap.store {w:World} {b n:Nat} {f:List UInt8→Nat} (h:CntMap P k e w b n f) (hk:P.underlying k=some .string) (ht:P.underlying t=some (.map k e)) (he:P.underlying e=some (.int .i64)) (s:ByteArray) (hs:s.size≤maxLen) (hn:n<maxLen) (v:Nat) (hv:v≤9223372036854775807) :
 ∃ w',(Instr.mapUpdate t (.map (some b)) (.string s) (.int .i64 (v:Nat))).run P w = .ok () w'∧CntMap P k e w' b (n+1) (fun p=>if p=s.data.toList then v else f p)∧Upd [b] w w':=by
 obtain ⟨D,h1,h2⟩:=h
 have hw:(Lit.int .i64 (v:Nat)).wf=true:=by simp [Lit.wf,IntKind.min,IntKind.max,IntKind.signed,IntKind.bits]; omega
 obtain ⟨w',hr,h3,h4⟩:=h1.update (string_keyed hk) ht hn (keyOf_string_mk hk hs) (plainElem_int he hw)
 refine ⟨w',hr,⟨_,h3,fun p=>?_⟩,(Upd.refl _ w).grown h4 (fun j hj => .inl (by simp at hj; simp [hj]))⟩
 show (D.put (Lit.string s.data.toList) (DataW.lit (Lit.int .i64 (v:Nat)))).atKey (.string p) (.lit (.int .i64 0)) = .lit (.int .i64 ((if p=s.data.toList then v else f p:Nat):Int))
 by_cases hp:p=s.data.toList
 · subst hp
   rw [if_pos rfl,atKey_put_same (h1.tidy (string_keyed hk)).isMap (by trivial)]
 · rw [if_neg hp,atKey_put_other (by intro e; simp at e; exact hp e)]
   exact h2 p
theorem Wj {w:World} {ops:Array Oper} {rest:List Oper} {o:Oper} {a:Act} {Q:Exit→Act→World→Prop}
 (hg:o.guard=none) (m x y:Operand) (hop:o.op=Op.mapUpdate t m x y) {b n:Nat} {f:List UInt8→Nat} (h:CntMap P k e w b n f)
 (hk:P.underlying k=some .string) (ht:P.underlying t=some (.map k e)) (he:P.underlying e=some (.int .i64)) (s:ByteArray) (hs:s.size≤maxLen) (hn:n<maxLen) (v:Nat) (hv:v≤9223372036854775807)
 (hm:a.eval m = .map (some b)) (hx:a.eval x = .string s) (hy:a.eval y = .int .i64 (v:Nat))
 (hK : ∀ w',CntMap P k e w' b (n+1) (fun p=>if p=s.data.toList then v else f p)→Upd [b] w w'→wpList P ops Q rest (a.put o.dst undef) w') :
 wpList P ops Q (o::rest) a w:=by
 refine wpList_plain hg fun K' hK'=>?_
 obtain ⟨w',hrun,r1,r2⟩:=h.store hk ht he s hs hn v hv
 unfold Oper.wp
 simp [execOp,hop,hm,hx,hy,hrun,Result.andThen]
 exact hK' _ _ (hK w' r1 r2)
end Go.Proofs.YtigjingielnaoaaGreatDoor
namespace Go.Proofs.YtigjingielnaoaaGreatDoor
open Go.RowKit
theorem zah:(Tryz.prog.info? 52).map (fun i=>(i.zero,i.size,i.bytes))=some (some (.agg #[.string .empty,.int .i64 0,.int .u32 0,.int .i64 0,.int .i64 0,.int .i64 0,.int .i64 0,.int .u32 0,.int .i64 0]),9,80):=by kernel_rfl
theorem zdu (w:World):(zeroValue 3).run Tryz.prog w = .ok (.int .i64 0) w:=by kernel_rfl
def qF (l:List RecD):List Value:=l.flatMap RecD.cells
theorem kH (a b:List RecD):qF (a++b)=qF a++qF b:=by simp [qF]
theorem VD (r:RecD):qF [r]=r.cells:=by simp [qF]
abbrev zep (w:World) (b n:Nat) (l:List RecD):Prop:=CntMap Tryz.prog 9 3 w b n (fun p=>(l.filter fun r=>decide (r.p.data.toList=p)).length)
theorem zdZ (l:List RecD) (s:ByteArray):0<(l.filter fun r=>decide (r.p.data.toList=s.data.toList)).length↔ze s∈l.map (fun x=>ze x.p):=by
 rw [List.length_pos_iff_exists_mem]
 simp only [List.mem_filter,decide_eq_true_eq,List.mem_map]
 constructor
 · rintro ⟨r,h1,h2⟩
   exact ⟨r,h1,by rw [show r.p=s from ByteArray.ext (Array.ext' h2)]⟩
 · rintro ⟨r,h1,h2⟩
   exact ⟨r,h1,by rw [← zw r.p,← zw s,h2]⟩
theorem zaY (l:List RecD) (r:RecD):(fun p:List UInt8=>if p=r.p.data.toList then (l.filter fun x=>decide (x.p.data.toList=r.p.data.toList)).length+1 else (l.filter fun x=>decide (x.p.data.toList=p)).length)=fun p=>((l++[r]).filter fun x=>decide (x.p.data.toList=p)).length:=by
 funext p
 rw [List.filter_append,List.length_append]
 by_cases h:p=r.p.data.toList
 · subst h
   rw [if_pos rfl]
   simp
 · rw [if_neg h,List.filter_cons,if_neg (by simpa using fun e=>h e.symm)]
   rfl
def zak (w':World) (p:List RecD×Nat) (e:Ending):Prop := ∃ v,e = .returned (.tuple #[v,.int .i64 (p.2:Nat)])∧Row w' 52 9 v p.1.length (qF p.1)
theorem VJ {s:ByteArray} {n:Nat} (h:(zR s n).1≠0):zW s (n:Nat)=([],(zR s n).1):=by unfold zW; rw [if_neg (by omega)]; exact if_pos h
set_option maxRecDepth 100000 in
set_option maxHeartbeats 6400000 in
theorem WB (s:ByteArray) (many:Int) (w:World) (hs:s.size≤1000000) (hm:many≤100000):Calls Tryz.prog 78 #[.string s,.int .i64 many] w fun e w'=>zak w' (zW s many) e∧Upd [] w w':=by
 by_cases hneg:many<0
 · have HV:Hid (zW s many=([],1)):=Lib.hid (if_pos hneg)
   go_enter Tryz.func78,Tryz.ntmps78
   go_wp2
   go_ret2
   exact ⟨⟨_,by rw [HV.out]; rfl,by rw [HV.out]; exact Row.nil _ _ _⟩,Upd.refl _ _⟩
 · obtain ⟨n,rfl⟩ : ∃ n:Nat,many=n:=⟨many.toNat,by omega⟩
   obtain ⟨i0,hi,hz0,hz1,hz2⟩:=info_parts zah
   have hmm:=@run_makeMap Tryz.prog
   have hneg2 : ¬ (n:Int)<0:=hneg
   have hU0:=(Upd.refl [] w).alloc (.map #[] 0)
   have hC0:=CntMap.new (P:=Tryz.prog) (k:=9) (e:=3) w
   have HU0:=Lib.hid hU0
   have HC0:=Lib.hid hC0
   clear hneg hU0 hC0
   go_enter Tryz.func78,Tryz.ntmps78
   go_wp2
   go_loopg [4,6,8,16] n (fun gg s4 s6 s8 s16 wr => ∃ i,i≤n∧gg=n-i∧s16 = .int .i64 (i:Nat) ∧ ∃ (l:List RecD) (a:Nat),s6 = .int .i64 (a:Nat)∧s8 = .bool (yM l)∧l.length=i∧Hid (zR s i=(0,l,a))∧Hid (Row wr 52 9 s4 i (qF l))∧Hid (zep wr w.heap.size i l)∧Hid (∀ g,s4.ownBlock=some g→w.heap.size<g)∧Hid (Upd [] w wr))
   case atStart=>exact ⟨0,Nat.zero_le _,rfl,rfl,[],0,rfl,rfl,rfl,Lib.hid rfl,Lib.hid (Row.nil _ _ _),HC0,Lib.hid (fun g hg=>by cases hg),HU0⟩
   case round =>
    clear hmm HU0 HC0
    obtain ⟨i,hin,rfl,rfl,l,a,rfl,rfl,hll,HE,HRow,HM,HO,HU⟩:=hrel
    have hal:a≤s.size:=by have:=Yf s i; rw [HE.out] at this; exact this
    by_cases hc:i<n
    · have hcz:(i:Int)<(n:Int):=by omega
      have hst:=Xt s HE.out
      have hsp:=Xj s HE.out
      have hat:=Jc s a
      have hft:=JB s a
      obtain ⟨x,hx⟩ : ∃ x,x=zt s a:=⟨_,rfl⟩
      have HRD:=Lib.hid (fun w=>YL s (a:Nat) w hs)
      rw [← hx] at HRD hst hsp hat hft
      clear hx
      obtain ⟨⟨p,m,sum,le,wh,k,md,t,pos⟩,nx,why⟩:=x
      dsimp only at hst hsp hat hft
      unfold qf RecD.v at HRD
      dsimp only at HRD
      have hpz:=hft.p
      dsimp only at hpz
      clear hft
      have hmb:=HM.out.lt
      obtain ⟨va,vc,rfl⟩:=HRow.out.form
      by_cases hw:why=0
      · subst hw
        have HST:=Lib.hid (hst rfl)
        have hax:=hat rfl hal
        clear hst hsp hat
        have HL:=Lib.hid (fun w9 (h:zep w9 w.heap.size i l)=>h.look (t:=158) Tryz.underlying9 Tryz.underlying158 Tryz.underlying3 (zdu _) p (by unfold maxLen; omega))
        have hcl:(l.filter fun r=>decide (r.p.data.toList=p.data.toList)).length≤i:=by have:=List.length_filter_le (fun r:RecD=>decide (r.p.data.toList=p.data.toList)) l; omega
        have HTW:=Lib.hid (js l ⟨p,m,sum,le,wh,k,md,t,pos⟩)
        have hpos:=zdZ l p
        have HCS:=Lib.hid (zaY l ⟨p,m,sum,le,wh,k,md,t,pos⟩)
        dsimp only at HTW HCS
        generalize hcd:(l.filter fun r=>decide (r.p.data.toList=p.data.toList)).length=c at *
        obtain ⟨mb,hmbd⟩ : ∃ b,decide (ze p∈l.map fun x=>ze x.p)=b:=⟨_,rfl⟩
        rw [hmbd] at HTW
        have hpos2:decide (0<(c:Int))=mb:=by rw [← hmbd,Bool.eq_iff_iff,decide_eq_true_eq,decide_eq_true_eq,← hpos]; omega
        clear hpos hmbd
        have HCD:=Lib.hid hcd
        clear hcd
        generalize yM l=tw at *
        have hcc:(c:Int)≤100000:=by omega
        have hcc0:(0:Int)≤(c:Int):=by omega
        go_wp2_with fail
        refine (HRD.out _).mono ?_
        rintro e w1 ⟨rfl,hu1⟩
        have hQ:=Blk.new w1 [.string p,.int .i64 m,.int .u32 (sum:Nat),.int .i64 le,.int .i64 wh,.int .i64 k,.int .i64 md,.int .u32 (t:Nat),.int .i64 pos] 52
        have hM1:=(HM.out.upd hu1 (by simp)).alloc (.cells #[.string p,.int .i64 m,.int .u32 (sum:Nat),.int .i64 le,.int .i64 wh,.int .i64 k,.int .i64 md,.int .u32 (t:Nat),.int .i64 pos] 52)
        have hR1:=(HRow.out.upd hu1 (by simp)).alloc (.cells #[.string p,.int .i64 m,.int .u32 (sum:Nat),.int .i64 le,.int .i64 wh,.int .i64 k,.int .i64 md,.int .u32 (t:Nat),.int .i64 pos] 52)
        have hU1:=(HU.out.then hu1).alloc (.cells #[.string p,.int .i64 m,.int .u32 (sum:Nat),.int .i64 le,.int .i64 wh,.int .i64 k,.int .i64 md,.int .u32 (t:Nat),.int .i64 pos] 52)
        have hsz1:=hu1.size
        have hpos3:decide (0<c)=mb:=by rw [← hpos2,Bool.eq_iff_iff,decide_eq_true_eq,decide_eq_true_eq]; omega
        have HQ:=Lib.hid hQ
        have HM1:=Lib.hid hM1
        have HR1:=Lib.hid hR1
        have HU1:=Lib.hid hU1
        have hl:=HL.out _ HM1.out
        have cA:=HQ.out.all
        have hq1:w1.heap.size≠w.heap.size:=by omega
        have hq2:w.heap.size<w1.heap.size:=by omega
        clear hQ hM1 hR1 hU1 HRow HM HU hsz1 hu1
        have HFIN : ∀ (v:Value) (w2 w3:World) (vv:Value) (ww:World),CntMap Tryz.prog 9 3 w2 w.heap.size (i+1) (fun q=>if q=p.data.toList then c+1 else (l.filter fun r=>decide (r.p.data.toList=q)).length)→Upd [w.heap.size] (w1.alloc (.cells #[.string p,.int .i64 m,.int .u32 (sum:Nat),.int .i64 le,.int .i64 wh,.int .i64 k,.int .i64 md,.int .u32 (t:Nat),.int .i64 pos] 52)) w2→Row w3 52 9 v (i+1) (qF l++[.string p,.int .i64 m,.int .u32 (sum:Nat),.int .i64 le,.int .i64 wh,.int .i64 k,.int .i64 md,.int .u32 (t:Nat),.int .i64 pos])→Upd (Value.slice va i vc).ownBlock.toList (w2.alloc (.cells #[.string p,.int .i64 m,.int .u32 (sum:Nat),.int .i64 le,.int .i64 wh,.int .i64 k,.int .i64 md,.int .u32 (t:Nat),.int .i64 pos] 52)) w3→Later (w2.alloc (.cells #[.string p,.int .i64 m,.int .u32 (sum:Nat),.int .i64 le,.int .i64 wh,.int .i64 k,.int .i64 md,.int .u32 (t:Nat),.int .i64 pos] 52)) (.slice va i vc) v →
         Hid (zep w3 w.heap.size (i+1) (l++[(⟨p,m,sum,le,wh,k,md,t,pos⟩:RecD)]))∧Hid (Row w3 52 9 v (i+1) (qF (l++[(⟨p,m,sum,le,wh,k,md,t,pos⟩:RecD)])))∧Hid (∀ g,v.ownBlock=some g→w.heap.size<g)∧Hid (Upd [] w w3):=by
         intro v w2 w3 _ _ hM2 hu2 hR3 hu3 hl3
         rw [HCS.out] at hM2
         have hs2:=hu2.size
         rw [World.size_alloc] at hs2
         have hO2 : ∀ k,k∈(Value.slice va i vc).ownBlock.toList→w.heap.size<k:=fun k hk=>HO.out k (by simpa using hk)
         refine ⟨Lib.hid ((hM2.alloc _).upd hu3 (fun hk=>by have:=hO2 _ hk; omega)),Lib.hid (by rw [kH,VD]; exact hR3),Lib.hid (fun g hg=>?_),Lib.hid ?_⟩
         · rcases hl3 with e | ⟨g',e1,e2⟩
           · exact HO.out g (by rw [← e]; exact hg)
           · rw [hg] at e1; simp at e1; rw [World.size_alloc] at e2; omega
         · exact ((HU1.out.trans hu2 (fun k hk => .inr (by simp at hk; omega))).alloc _).trans hu3 (fun k hk => .inr (by have:=hO2 _ hk; omega))
        have HF:=Lib.hid HFIN
        clear HFIN
        rcases tw with _ | _
        all_goals
         go_wp2_with (at_mapUpdate; refine Wj rfl _ _ _ rfl HM1.out Tryz.underlying9 Tryz.underlying158 Tryz.underlying3 p (by unfold maxLen; omega) (by unfold maxLen; omega) (c+1) (by omega) rfl rfl (by first | rfl | go_num) ?_)
         rintro w2 hM2 hu2
         have hs2:=hu2.size
         rw [World.size_alloc] at hs2
         have hQ2:=HQ.out.upd hu2 (by simpa using hq1)
         have hR2:=HR1.out.upd hu2 (fun k hk e=>by have:=HO.out k hk; simp at e; omega)
         have HM2:=Lib.hid hM2
         have HU2:=Lib.hid hu2
         clear cA hl hM2 hu2
         have dA:=hQ2.all
         have HQ2:=Lib.hid hQ2
         have HR2:=Lib.hid hR2
         clear hQ2 hR2 hs2
         go_wp2_with (at_builtin; refine zE _ rfl _ _ 42 rfl 52 i0 _ 9 80 Tryz.underlying42 hi hz0 hz1 hz2 rfl (by omega) (.slice va i vc) i _ rfl (HR2.out.alloc _) ⟨w2.heap.size,0,none⟩ 1 1 [.string p,.int .i64 m,.int .u32 (sum:Nat),.int .i64 le,.int .i64 wh,.int .i64 k,.int .i64 md,.int .u32 (t:Nat),.int .i64 pos] rfl rfl (World.news_of_block (cs := #[.string p,.int .i64 m,.int .u32 (sum:Nat),.int .i64 le,.int .i64 wh,.int .i64 k,.int .i64 md,.int .u32 (t:Nat),.int .i64 pos]) (t:=52) (fr:=(0,0)) (heap_alloc_new _ _)) (by simp [Value.oneCell']) (by unfold maxLen; omega) (by omega) ?_)
         rintro v3 w3 hR3 hu3 hl3
         obtain ⟨f1,f2,f3,f4⟩:=HF.out v3 w2 w3 v3 w3 HM2.out HU2.out hR3 hu3 hl3
         clear hR3 hu3 hl3 HM2 HU2 HQ2 HR2 dA HF HR1 HU1 HM1 HQ
         go_wp2
         go_roundg (n-(i+1))
         · refine ⟨i+1,by omega,rfl,by first | rfl | go_num,l++[(⟨p,m,sum,le,wh,k,md,t,pos⟩:RecD)],a+nx,by first | rfl | go_num,by rw [HTW.out]; rfl,by rw [List.length_append,hll]; rfl,HST,f2,f1,f3,f4⟩
         · omega
      · have HSP:=Lib.hid (hsp hw n hc)
        have HV:Hid (zW s (n:Nat)=([],why)):=Lib.hid (by rw [VJ (by rw [HSP.out]; exact hw),HSP.out])
        have tw:((why:Int) != 0)=true:=by rw [bne_iff_ne]; omega
        clear hst hsp hat
        go_wp2_with fail
        refine (HRD.out _).mono ?_
        rintro e w1 ⟨rfl,hu1⟩
        have HU1:=Lib.hid ((HU.out.then hu1).alloc (.cells #[.string p,.int .i64 m,.int .u32 (sum:Nat),.int .i64 le,.int .i64 wh,.int .i64 k,.int .i64 md,.int .u32 (t:Nat),.int .i64 pos] 52))
        clear hu1 HRow HM HU
        go_wp2
        go_ret2
        exact ⟨⟨_,by rw [HV.out]; rfl,by rw [HV.out]; exact Row.nil _ _ _⟩,HU1.out⟩
    · have hcz : ¬ (i:Int)<(n:Int):=by omega
      have hin2:i=n:=by omega
      subst hin2
      have hcr:=HE.out
      by_cases h1:a<s.size
      · have HV:Hid (zW s (i:Nat)=([],14)):=Lib.hid (by unfold zW; rw [if_neg (by omega),Int.toNat_natCast,hcr]; dsimp only; rw [if_neg (by omega),if_pos h1])
        have h1z:(a:Int)<(s.size:Int):=by omega
        clear hcr
        go_wp2
        go_ret2
        exact ⟨⟨_,by rw [HV.out]; rfl,by rw [HV.out]; exact Row.nil _ _ _⟩,HU.out⟩
      · have h1z : ¬ (a:Int)<(s.size:Int):=by omega
        have HV:Hid (zW s (i:Nat)=if yM l=true then ([],6) else (l,0)):=Lib.hid (by unfold zW; rw [if_neg (by omega),Int.toNat_natCast,hcr]; dsimp only; rw [if_neg (by omega),if_neg h1])
        clear hcr
        generalize yM l=tw at *
        rcases tw with _ | _
        · go_wp2
          go_ret2
          exact ⟨⟨_,by rw [HV.out]; rfl,by rw [HV.out]; show Row _ _ _ _ l.length _; rw [hll]; exact HRow.out⟩,HU.out⟩
        · go_wp2
          go_ret2
          exact ⟨⟨_,by rw [HV.out]; rfl,by rw [HV.out]; exact Row.nil _ _ _⟩,HU.out⟩
end Go.Proofs.YtigjingielnaoaaGreatDoor
namespace Go.Proofs.YtigjingielnaoaaGreatDoor
open Go.RowKit
theorem zdo (x:ByteArray) (h:46≤x.size):gN x 34 2=0↔x[34].toNat=0∧x[35].toNat=0:=by
 rw [zen x 34 (by omega)]
 show x[34].toNat+256*x[35].toNat=0↔_
 omega
def vr (x:ByteArray) (a:List Nat) (kk:Nat):RecD:=⟨zf a,(gN x 10 2:Nat),gN x 16 4,(gN x 20 4:Nat),(gN x 24 4:Nat),(kk:Nat),(gN x 40 2%512:Nat),gN x 12 4,(gN x 42 4:Nat)⟩
theorem vR (x:ByteArray) (h:x.size<46∨x.size<46+gN x 28 2+gN x 30 2+gN x 32 2):yf x=(zT,0,3):=if_pos (by unfold yB; omega)
theorem VT (x:ByteArray) (h:46≤x.size) (hl:46+gN x 28 2+gN x 30 2+gN x 32 2≤x.size) (hb : ¬ (gN x 0 4=33639248∧(gN x 8 2=2048∨gN x 8 2=2056)∧x[34].toNat=0∧x[35].toNat=0)):yf x=(zT,0,2):=by
 unfold yf
 rw [if_neg (by unfold yB; omega),kW x h (by unfold yB; omega)]
 dsimp only
 rw [if_pos]
 unfold Jd
 dsimp only
 rw [← zdo x h] at hb
 simp only [Bool.and_eq_false_iff,Bool.or_eq_false_iff,decide_eq_false_iff_not]
 omega
theorem VR (x:ByteArray) (h:46≤x.size) (hl:46+gN x 28 2+gN x 30 2+gN x 32 2≤x.size) (hb:gN x 0 4=33639248∧(gN x 8 2=2048∨gN x 8 2=2056)∧x[34].toNat=0∧x[35].toNat=0) (hp:(zv (((ze x).drop 46).take (gN x 28 2))).2.2=false):yf x=(zT,0,5):=by
 unfold yf
 rw [if_neg (by unfold yB; omega),kW x h (by unfold yB; omega)]
 dsimp only
 rw [if_neg,if_pos hp]
 unfold Jd
 dsimp only
 rw [← zdo x h] at hb
 simp only [Bool.and_eq_false_iff,Bool.or_eq_false_iff,decide_eq_false_iff_not]
 omega
theorem jv (x:ByteArray) (h:46≤x.size) (hl:46+gN x 28 2+gN x 30 2+gN x 32 2≤x.size) (hb:gN x 0 4=33639248∧(gN x 8 2=2048∨gN x 8 2=2056)∧x[34].toNat=0∧x[35].toNat=0) (a:List Nat) (kk:Nat) (hp:zv (((ze x).drop 46).take (gN x 28 2))=(a,kk,true)) :
 yf x=if gN x 40 2/4096*4096≠qY kk then (zT,0,8) else if zM (vr x a kk)≠0 then (zT,0,zM (vr x a kk)) else (vr x a kk,46+gN x 28 2+gN x 30 2+gN x 32 2,0):=by
 have hh:=zeg x (by omega)
 unfold yf
 rw [if_neg (by unfold yB; omega),kW x h (by unfold yB; omega)]
 dsimp only
 rw [if_neg]
 rotate_left
 · unfold Jd
   dsimp only
   rw [← zdo x h] at hb
   simp only [Bool.and_eq_false_iff,Bool.or_eq_false_iff,decide_eq_false_iff_not]
   omega
 have e:jV ⟨gN x 0 4,gN x 8 2,gN x 34 2,gN x 38 4,gN x 10 2,gN x 12 4,gN x 16 4,gN x 20 4,gN x 24 4,gN x 42 4,((ze x).drop 46).take (gN x 28 2)⟩=vr x a kk:=by
  unfold jV vr
  dsimp only
  rw [hp,hh]
 rw [e,hp]
 unfold XZ
 dsimp only
 rw [hp,hh]
 dsimp only
 rw [if_neg (by simp)]
 have e2:yB x=46+gN x 28 2+gN x 30 2+gN x 32 2:=by unfold yB; omega
 rw [e2]
 by_cases hk:gN x 40 2/4096*4096=qY kk
 · rw [if_neg (by rw [decide_eq_true hk]; simp),if_neg (show ¬ (gN x 40 2/4096*4096≠qY kk) by simpa using hk)]
 · rw [if_pos (decide_eq_false hk),if_pos hk]
theorem kT (x:ByteArray) (a:List Nat) (kk:Nat) (ha:a.length≤200):(vr x a kk).Fits:=by
 unfold vr
 refine ⟨?_,zC x 16 4,zC x 12 4⟩
 dsimp only
 rw [zh]; omega
end Go.Proofs.YtigjingielnaoaaGreatDoor
namespace Go.Proofs.YtigjingielnaoaaGreatDoor
open Go.RowKit
set_option maxRecDepth 100000 in
set_option maxHeartbeats 12800000 in
theorem ZE (s x:ByteArray) (i:Nat) (w:World) (hs:s.size≤1000000) (hi:i≤s.size) (hx:x=s.extract i s.size) (g46:46≤x.size) (hl1:46+gN x 28 2+gN x 30 2+gN x 32 2≤x.size) (gbe:gN x 0 4=33639248) (gfl:gN x 8 2=2048) (g34:x[34].toNat=0) (g35:x[35].toNat=0) (pa:List Nat) (hpp:zv (((ze x).drop 46).take (gN x 28 2))=(pa,1,true)) :
 Calls Tryz.prog 84 #[.string s,.int .i64 (i:Nat)] w fun e w'=>e = .returned (qf (zt s i))∧Upd [] w w':=by
 have hi0:(0:Int)≤(i:Int):=by omega
 have hi1:(i:Int)≤(s.size:Int):=by omega
 have hxs:x.size=s.size-i:=by rw [hx,ByteArray.size_extract]; omega
 have HV:Hid (zt s i=yf x):=Lib.hid (by unfold zt; rw [if_neg (by omega),hx]; rfl)
 have hz : ¬ (s.size:Int)-(i:Int)<46:=by omega
 have hx0:(46:Int)≤(x.size:Int):=by omega
 have hxm:x.size≤1000000:=by omega
 have HAlo:=Lib.hid (fun w=>zo x 28 2 w (by omega) (by omega) (by omega))
 have Blo:=zC x 28 2
 have HAex:=Lib.hid (fun w=>zo x 30 2 w (by omega) (by omega) (by omega))
 have Bex:=zC x 30 2
 have HAre:=Lib.hid (fun w=>zo x 32 2 w (by omega) (by omega) (by omega))
 have Bre:=zC x 32 2
 have HAfl:=Lib.hid (fun w=>zo x 8 2 w (by omega) (by omega) (by omega))
 have Bfl:=zC x 8 2
 have HAhi:=Lib.hid (fun w=>zo x 40 2 w (by omega) (by omega) (by omega))
 have Bhi:=zC x 40 2
 have HAme:=Lib.hid (fun w=>zo x 10 2 w (by omega) (by omega) (by omega))
 have Bme:=zC x 10 2
 have HAti:=Lib.hid (fun w=>zo x 12 4 w (by omega) (by omega) (by omega))
 have Bti:=zC x 12 4
 have HAsu:=Lib.hid (fun w=>zo x 16 4 w (by omega) (by omega) (by omega))
 have Bsu:=zC x 16 4
 have HAla:=Lib.hid (fun w=>zo x 20 4 w (by omega) (by omega) (by omega))
 have Bla:=zC x 20 4
 have HAwh:=Lib.hid (fun w=>zo x 24 4 w (by omega) (by omega) (by omega))
 have Bwh:=zC x 24 4
 have HAps:=Lib.hid (fun w=>zo x 42 4 w (by omega) (by omega) (by omega))
 have Bps:=zC x 42 4
 have HM:=Lib.hid (vq x (by omega) [80,75,1,2] 33639248 rfl (by decide))
 have HX:=Lib.hid (jv x g46 hl1 ⟨gbe,by omega,g34,g35⟩ pa 1 hpp)
 have hps:pa.length≤200:=by have:=xz (l:=((ze x).drop 46).take (gN x 28 2)) (by rw [hpp]); rw [hpp] at this; exact this
 have hfits:=kT x pa 1 hps
 have HRT:=Lib.hid (fun w=>xF _ w hfits)
 have HPT:=Lib.hid (fun w=>qm (x.extract 46 (46+gN x 28 2)) w (by rw [ByteArray.size_extract]; omega))
 have hbx:ze (x.extract 46 (46+gN x 28 2))=((ze x).drop 46).take (gN x 28 2):=by rw [zr,Nat.add_sub_cancel_left]
 rw [hbx,hpp] at HPT
 clear hbx hpp hfits
 unfold jq at HPT
 dsimp only at HPT
 obtain ⟨er,her⟩ : ∃ er,zM (vr x pa 1)=er:=⟨_,rfl⟩
 rw [her] at HRT HX
 have HER:=Lib.hid her
 clear her
 unfold RecD.v at HRT
 unfold vr at HRT HX
 dsimp only at HRT
 have t34:((x[34].toNat:Int) != 0)=false:=by rw [bne_eq_false_iff_eq]; omega
 have t35:((x[35].toNat:Int) != 0)=false:=by rw [bne_eq_false_iff_eq]; omega
 generalize gN x 0 4=be at *
 generalize gN x 28 2=lo at *
 generalize gN x 30 2=ex at *
 generalize gN x 32 2=re at *
 generalize gN x 8 2=fl at *
 generalize gN x 40 2=hi at *
 generalize gN x 10 2=me at *
 generalize gN x 12 4=ti at *
 generalize gN x 16 4=su at *
 generalize gN x 20 4=la at *
 generalize gN x 24 4=wh at *
 generalize gN x 42 4=ps at *
 simp only [Nat.reducePow] at Blo Bex Bre Bfl Bhi Bme Bti Bsu Bla Bwh Bps
 have HXD:=Lib.hid hx
 clear hx
 subst gbe gfl
 have tm:((x.extract 0 4).toList==[80,75,1,2])=true:=by rw [HM.out]; rfl
 have HCK:Hid (qY 1=32768):=Lib.hid rfl
 rw [HCK.out] at HX
 have tf1:(((2048:Nat):Int) != 2048)=false:=by rw [bne_eq_false_iff_eq]; omega
 go_enter Tryz.func84,Tryz.ntmps84
 go_wp2_with fail
 rw [← HXD.out]
 have hR0:=Blk.new w [.string .empty,.int .i64 0,.int .u32 0,.int .i64 0,.int .i64 0,.int .i64 0,.int .i64 0,.int .u32 0,.int .i64 0] 52
 have hU0:=(Upd.refl [] w).alloc (.cells #[.string .empty,.int .i64 0,.int .u32 0,.int .i64 0,.int .i64 0,.int .i64 0,.int .i64 0,.int .u32 0,.int .i64 0] 52)
 refine (HAlo.out _).mono ?_
 rintro e w1 ⟨rfl,hu1⟩
 have hR1:=hR0.upd hu1 (by simp)
 have hU1:=hU0.then hu1
 clear hR0 hU0 hu1
 have HR0:=Lib.hid (Nat.le_refl w.heap.size)
 generalize hr0:w.heap.size=r0 at *
 have HG:Hid (w.heap.size≤r0):=Lib.hid (by omega)
 clear HR0 hr0
 go_wp2_with fail
 refine (HAex.out _).mono ?_
 rintro e w2 ⟨rfl,hu2⟩
 have hR2:=hR1.upd hu2 (by simp)
 have hU2:=hU1.then hu2
 clear hR1 hU1 hu2
 go_wp2_with fail
 refine (HAre.out _).mono ?_
 rintro e w3 ⟨rfl,hu3⟩
 have hR3:=hR2.upd hu3 (by simp)
 have hU3:=hU2.then hu3
 clear hR2 hU2 hu3
 go_wp2_with fail
 refine (HAfl.out _).mono ?_
 rintro e w4 ⟨rfl,hu4⟩
 have hR4:=hR3.upd hu4 (by simp)
 have hU4:=hU3.then hu4
 clear hR3 hU3 hu4
 have HR4:=Lib.hid hR4
 have HU4:=Lib.hid hU4
 clear hR4 hU4
 go_wp2_with fail
 refine (HPT.out _).mono ?_
 rintro e w5 ⟨rfl,hu5⟩
 have hR5:=HR4.out.upd hu5 (by simp)
 have hU5:=HU4.out.then hu5
 clear HR4 HU4 hu5 t34 t35 tm
 go_wp2_with fail
 refine (HAhi.out _).mono ?_
 rintro e w6 ⟨rfl,hu6⟩
 have hR6:=hR5.upd hu6 (by simp)
 have hU6:=hU5.then hu6
 clear hR5 hU5 hu6
 by_cases hk:hi/4096=8
 rotate_left
 · rw [if_pos (by omega)] at HX
   have tk:((hi:Int)/4096 != 8)=true:=by rw [bne_iff_ne]; omega
   have cA:=hR6.all
   have fA:=hR6.frz
   have HR:=Lib.hid hR6
   have HU:=Lib.hid hU6
   clear hR6 hU6
   go_wp2_with fail
   (try simp only [Exit.inBlock,Exit.then]); refine bodyPost_ret (zk rfl _ _ r0 _ _ _ _ _ _ _ _ _ rfl (Blk.set9 HR.out _ _ _ _ _ _ _ _ _)) rfl ⟨?_,Upd.set9 HU.out (.inr HG.out) _ _ _ _ _ _ _ _ _⟩
   rw [HV.out,HX.out]; rfl
 · rw [if_neg (by omega)] at HX
   have tk:((hi:Int)/4096 != 8)=false:=by rw [bne_eq_false_iff_eq]; omega
   go_wp2_with fail
   refine (HAme.out _).mono ?_
   rintro e w7 ⟨rfl,hu7⟩
   have hR7:=hR6.upd hu7 (by simp)
   have hU7:=hU6.then hu7
   clear hR6 hU6 hu7
   go_wp2_with fail
   refine (HAti.out _).mono ?_
   rintro e w8 ⟨rfl,hu8⟩
   have hR8:=hR7.upd hu8 (by simp)
   have hU8:=hU7.then hu8
   clear hR7 hU7 hu8
   go_wp2_with fail
   refine (HAsu.out _).mono ?_
   rintro e w9 ⟨rfl,hu9⟩
   have hR9:=hR8.upd hu9 (by simp)
   have hU9:=hU8.then hu9
   clear hR8 hU8 hu9
   go_wp2_with fail
   refine (HAla.out _).mono ?_
   rintro e w10 ⟨rfl,hu10⟩
   have hR10:=hR9.upd hu10 (by simp)
   have hU10:=hU9.then hu10
   clear hR9 hU9 hu10
   go_wp2_with fail
   refine (HAwh.out _).mono ?_
   rintro e w11 ⟨rfl,hu11⟩
   have hR11:=hR10.upd hu11 (by simp)
   have hU11:=hU10.then hu11
   clear hR10 hU10 hu11
   go_wp2_with fail
   refine (HAps.out _).mono ?_
   rintro e w12 ⟨rfl,hu12⟩
   have hR12:=hR11.upd hu12 (by simp)
   have hU12:=hU11.then hu12
   clear hR11 hU11 hu12
   have hR13:=hR12.alloc (.cells #[.string (zf pa),.int .i64 (me:Nat),.int .u32 (su:Nat),.int .i64 (la:Nat),.int .i64 (wh:Nat),.int .i64 1,.int .i64 ((hi:Int)%512),.int .u32 (ti:Nat),.int .i64 (ps:Nat)] 52)
   have hU13:=hU12.alloc (.cells #[.string (zf pa),.int .i64 (me:Nat),.int .u32 (su:Nat),.int .i64 (la:Nat),.int .i64 (wh:Nat),.int .i64 1,.int .i64 ((hi:Int)%512),.int .u32 (ti:Nat),.int .i64 (ps:Nat)] 52)
   have hQ13:=Blk.new w12 [.string (zf pa),.int .i64 (me:Nat),.int .u32 (su:Nat),.int .i64 (la:Nat),.int .i64 (wh:Nat),.int .i64 1,.int .i64 ((hi:Int)%512),.int .u32 (ti:Nat),.int .i64 (ps:Nat)] 52
   have hnr:r0<w12.heap.size:=hR12.lt
   have HR:=Lib.hid hR13
   have HU:=Lib.hid hU13
   have HQ:=Lib.hid hQ13
   clear hR12 hU12 hR13 hU13 hQ13
   go_wp2_with fail
   generalize w12.heap.size=q0 at *
   refine (HRT.out _).mono ?_
   rintro e v ⟨rfl,huv⟩
   have hR20:=HR.out.upd huv (by simp)
   have hU20:=HU.out.then huv
   have hQ20:=HQ.out.upd huv (by simp)
   clear HR HU HQ huv
   by_cases he:er=0
   rotate_left
   · rw [if_pos he] at HX
     have te:((er:Int) != 0)=true:=by rw [bne_iff_ne]; omega
     clear hQ20
     have cA:=hR20.all
     have fA:=hR20.frz
     have HR:=Lib.hid hR20
     have HU:=Lib.hid hU20
     clear hR20 hU20
     go_wp2_with fail
     (try simp only [Exit.inBlock,Exit.then]); refine bodyPost_ret (zk rfl _ _ r0 _ _ _ _ _ _ _ _ _ rfl (Blk.set9 HR.out _ _ _ _ _ _ _ _ _)) rfl ⟨?_,Upd.set9 HU.out (.inr HG.out) _ _ _ _ _ _ _ _ _⟩
     rw [HV.out,HX.out]; rfl
   · rw [if_neg (by omega)] at HX
     subst he
     have gA:=hQ20.all
     clear hQ20
     have cA:=hR20.all
     have fA:=hR20.frz
     have HR:=Lib.hid hR20
     have HU:=Lib.hid hU20
     clear hR20 hU20
     go_wp2_with fail
     (try simp only [Exit.inBlock,Exit.then]); refine bodyPost_ret (zk rfl _ _ r0 _ _ _ _ _ _ _ _ _ rfl (Blk.set9 HR.out _ _ _ _ _ _ _ _ _)) rfl ⟨?_,Upd.set9 HU.out (.inr HG.out) _ _ _ _ _ _ _ _ _⟩
     rw [HV.out,HX.out]; simp [qf,RecD.v]
end Go.Proofs.YtigjingielnaoaaGreatDoor
