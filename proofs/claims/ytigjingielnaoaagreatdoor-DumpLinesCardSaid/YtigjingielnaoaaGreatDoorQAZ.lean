/- Package zip: which bytes entries have: plain. -/
import Derived.Test.YtigjingielnaoaaGreatDoorQAY
import Derived.Test.YtigjingielnaoaaGreatDoorQAG
import Derived.Test.YtigjingielnaoaaGreatDoorQAH
set_option linter.unusedVariables false
set_option linter.unusedSimpArgs false
set_option linter.unusedSectionVars false
namespace Go.Proofs.YtigjingielnaoaaGreatDoor
open Go.RowKit
def qh (l:List RecD):Nat:=(l.map fun r=>46+(zF r.k r.p).length).sum
theorem Xe (l:List RecD) (r:RecD):qh (l++[r])=qh l+(46+(zF r.k r.p).length):=by simp [qh]
theorem vF (l:List RecD) (h : ∀ r∈l,r.p.size≤1000):qh l≤l.length*1047:=by
 induction l with
 | nil=>simp [qh]
 | cons r l ih =>
   have h1:=ih (fun x hx=>h x (List.mem_cons_of_mem _ hx))
   have h2:=xV r.k r.p
   have h3:=h r (by simp)
   show (46+(zF r.k r.p).length)+qh l≤_
   rw [List.length_cons]
   omega
def spC (l:List (Int×Int)):List Value:=l.flatMap fun x=>[.int .i64 x.1,.int .i64 x.2]
theorem VB (l:List (Int×Int)) (a b:Int):spC (l++[(a,b)])=spC l++[.int .i64 a,.int .i64 b]:=by simp [spC]
theorem WY (l:List (Int×Int)) (i:Nat) (hi:i<l.length):(spC l)[i*2]? =some (.int .i64 l[i].1)∧(spC l)[i*2+1]? =some (.int .i64 l[i].2):=by
 induction l generalizing i with
 | nil=>simp at hi
 | cons x l ih =>
   have e:spC (x::l)=([.int .i64 x.1,.int .i64 x.2]:List Value)++spC l:=rfl
   rw [e]
   cases i with
   | zero=>exact ⟨rfl,rfl⟩
   | succ j =>
     have:=ih j (by simpa using hi)
     rw [List.getElem?_append_right (by simp; omega),List.getElem?_append_right (by simp; omega)]
     simp only [List.length_cons,List.length_nil,List.getElem_cons_succ]
     rw [show (j+1)*2-(0+1+1)=j*2 by omega,show (j+1)*2+1-(0+1+1)=j*2+1 by omega]
     exact this
def yK (x o:Int×Int):Bool:=decide (o.1<x.2)&&decide (x.1<o.2)
def Jy (s:ByteArray) (E:Int):List RecD→List (Int×Int)→List (Int×Int)×Nat
 | [],out=>(out,0)
 | r::l,out =>
   if (xd s r).2.2≠0 then ([],(xd s r).2.2)
   else if E<r.pos+(xd s r).2.1∨out.any (yK (r.pos,r.pos+(xd s r).2.1))=true then ([],2)
   else Jy s E l (out++[(r.pos,r.pos+(xd s r).2.1)])
def qk (s:ByteArray) (l:List RecD):List (Int×Int)×Nat:=Jy s ((s.size:Int)-(qh l:Nat)-22) l []
def VO {α:Type} (pr:α→Bool) (l:List α):Int:=if l.findIdx pr<l.length then (l.findIdx pr:Nat) else -1
theorem zci {α:Type} {pr:α→Bool} {l:List α} (i:Nat) (hi:i<l.length) (h:pr l[i]=true) (hn : ∀ j,(hj:j<l.length)→j<i→pr l[j]=false):VO pr l=(i:Nat):=by
 have e:l.findIdx pr=i:=by
  rw [List.findIdx_eq hi]
  exact ⟨h,fun j hj=>by simpa using hn j (by omega) hj⟩
 unfold VO
 rw [e,if_pos hi]
theorem zd7 {α:Type} {pr:α→Bool} {l:List α} (hn : ∀ j,(hj:j<l.length)→pr l[j]=false):VO pr l = -1:=by
 have e : ¬ l.findIdx pr<l.length:=by
  rw [List.findIdx_lt_length]
  rintro ⟨x,hx,h⟩
  obtain ⟨j,hj,rfl⟩:=List.mem_iff_getElem.1 hx
  rw [hn j hj] at h
  cases h
 unfold VO
 rw [if_neg e]
theorem zcZ {α:Type} (pr:α→Bool) (l:List α):decide (0≤VO pr l)=l.any pr:=by
 unfold VO
 by_cases h:l.findIdx pr<l.length
 · rw [if_pos h,decide_eq_true (by omega)]
   rw [List.findIdx_lt_length] at h
   exact (List.any_eq_true.2 h).symm
 · rw [if_neg h,decide_eq_false (by omega)]
   rw [List.findIdx_lt_length] at h
   symm
   rw [Bool.eq_false_iff]
   intro h2
   exact h (List.any_eq_true.1 h2)
theorem VN (s:ByteArray) (r:RecD) (hs:s.size≤1000000) (h:(xd s r).2.2=0):(0≤r.pos∧r.pos<2147483648)∧0≤(xd s r).2.1∧(xd s r).2.1≤3000000000:=by
 unfold xd at h ⊢
 split at h
 · cases h
 rename_i h0
 have hb:=Ji (r:=r) (by omega)
 rw [if_neg h0]
 split at h
 · rename_i h1; exact absurd h h1
 rename_i h1
 have hp:=Jk (s:=s) (a:=r.pos) (by omega)
 have ht:=Qc s (zj s r.pos).1 r (r.pos+(zj s r.pos).2.1) (zj s r.pos).2.2.1
 rw [if_neg h1]
 split at h
 · cases h
 rename_i h2
 rw [if_neg h2]
 split at h
 · rename_i h3; exact absurd h h3
 rename_i h3
 rw [if_neg h3]
 split at h
 · cases h
 rename_i h4
 rw [if_neg h4]
 split at h
 · rename_i h5; exact absurd h h5
 rename_i h5
 rw [if_neg h5]
 refine ⟨hb.2.2.1,?_,?_⟩
 · show 0≤((zj s r.pos).2.1:Int)+r.l+_; omega
 · show ((zj s r.pos).2.1:Int)+r.l+_≤_; omega
end Go.Proofs.YtigjingielnaoaaGreatDoor
namespace Go.Proofs.YtigjingielnaoaaGreatDoor
open Go.RowKit
structure ChD where
 beg:Nat
 flags:Nat
 disk:Nat
 attr:Nat
 m:Nat
 t:Nat
 sum:Nat
 l:Nat
 wh:Nat
 pos:Nat
 name:List Nat
def xt (r:RS):ChD×RS :=
 let c_a:=r.num 4
 let c_k1:=c_a.2.text 4
 let c_f:=c_k1.2.num 2
 let c_m:=c_f.2.num 2
 let c_t:=c_m.2.num 4
 let c_u:=c_t.2.num 4
 let c_l:=c_u.2.num 4
 let c_wh:=c_l.2.num 4
 let c_n:=c_wh.2.num 2
 let c_ex:=c_n.2.num 2
 let c_re:=c_ex.2.num 2
 let c_di:=c_re.2.num 2
 let c_k2:=c_di.2.text 2
 let c_at:=c_k2.2.num 4
 let c_ps:=c_at.2.num 4
 let nm:=c_ps.2.text c_n.1
 let sk:=nm.2.text (c_ex.1+c_re.1)
 (⟨c_a.1,c_f.1,c_di.1,c_at.1,c_m.1,c_t.1,c_u.1,c_l.1,c_wh.1,c_ps.1,nm.1⟩,sk.2)
def yB (s:ByteArray):Nat:=46+gN s 28 2+(gN s 30 2+gN s 32 2)
theorem jT {s:ByteArray} {p:Nat} (n:Nat) (h:p+n≤s.size):(⟨s,p,false⟩:RS).text n=(((ze s).drop p).take n,⟨s,p+n,false⟩):=RS.text_fine n (by omega)
theorem kW (s:ByteArray) (h46:46≤s.size) (h:yB s≤s.size) :
 xt ⟨s,0,false⟩=(⟨gN s 0 4,gN s 8 2,gN s 34 2,gN s 38 4,gN s 10 2,gN s 12 4,gN s 16 4,gN s 20 4,gN s 24 4,gN s 42 4,((ze s).drop 46).take (gN s 28 2)⟩,⟨s,yB s,false⟩):=by
 unfold yB at h ⊢
 unfold xt
 simp only [zu 4 (show 0+4≤s.size by omega),jT 4 (show 4+4≤s.size by omega),zu 2 (show 8+2≤s.size by omega),zu 2 (show 10+2≤s.size by omega),zu 4 (show 12+4≤s.size by omega),zu 4 (show 16+4≤s.size by omega),zu 4 (show 20+4≤s.size by omega),zu 4 (show 24+4≤s.size by omega),zu 2 (show 28+2≤s.size by omega),zu 2 (show 30+2≤s.size by omega),zu 2 (show 32+2≤s.size by omega),zu 2 (show 34+2≤s.size by omega),jT 2 (show 36+2≤s.size by omega),zu 4 (show 38+4≤s.size by omega),zu 4 (show 42+4≤s.size by omega),Nat.zero_add,Nat.reduceAdd]
 rw [jT _ (by omega)]
 dsimp only
 rw [jT _ (by omega)]
theorem XC (r:RS) (n:Nat) (h:(r.text n).2.bad=false) (hp:r.p≤r.s.size):r.bad=false∧r.p+n≤r.s.size∧r.text n=(((ze r.s).drop r.p).take n,⟨r.s,r.p+n,false⟩):=by
 obtain ⟨a,b,c⟩:=RS.text_all r n h
 exact ⟨a,by omega,c⟩
theorem zcK (s:ByteArray) (h:s.size<46∨s.size<yB s):(xt ⟨s,0,false⟩).2.bad=true:=by
 cases hb:(xt ⟨s,0,false⟩).2.bad with
 | true=>rfl
 | false =>
   exfalso
   unfold yB at h
   unfold xt at hb
   dsimp only at hb
   have o0:(⟨s,0,false⟩:RS).Ok:=Nat.zero_le _
   have o1:=RS.num_ok o0 4
   have o2:=RS.text_ok o1 4
   have o3:=RS.num_ok o2 2
   have o4:=RS.num_ok o3 2
   have o5:=RS.num_ok o4 4
   have o6:=RS.num_ok o5 4
   have o7:=RS.num_ok o6 4
   have o8:=RS.num_ok o7 4
   have o9:=RS.num_ok o8 2
   have o10:=RS.num_ok o9 2
   have o11:=RS.num_ok o10 2
   have o12:=RS.num_ok o11 2
   have o13:=RS.text_ok o12 2
   have o14:=RS.num_ok o13 4
   have o15:=RS.num_ok o14 4
   obtain ⟨b1,l1,e1⟩:=RS.text_all _ _ hb
   obtain ⟨b2,l2,e2⟩:=RS.text_all _ _ b1
   obtain ⟨b3,l3,e3⟩:=zI _ _ b2 o14
   obtain ⟨b4,l4,e4⟩:=zI _ _ b3 o13
   obtain ⟨b5,l5,e5⟩:=XC _ _ b4 o12
   obtain ⟨b6,l6,e6⟩:=zI _ _ b5 o11
   obtain ⟨b7,l7,e7⟩:=zI _ _ b6 o10
   obtain ⟨b8,l8,e8⟩:=zI _ _ b7 o9
   obtain ⟨b9,l9,e9⟩:=zI _ _ b8 o8
   obtain ⟨b10,l10,e10⟩:=zI _ _ b9 o7
   obtain ⟨b11,l11,e11⟩:=zI _ _ b10 o6
   obtain ⟨b12,l12,e12⟩:=zI _ _ b11 o5
   obtain ⟨b13,l13,e13⟩:=zI _ _ b12 o4
   obtain ⟨b14,l14,e14⟩:=zI _ _ b13 o3
   obtain ⟨b15,l15,e15⟩:=zI _ _ b14 o2
   obtain ⟨b16,l16,e16⟩:=XC _ _ b15 o1
   obtain ⟨b17,l17,e17⟩:=zI _ _ b16 o0
   clear b1 b2 b3 b4 b5 b6 b7 b8 b9 b10 b11 b12 b13 b14 b15 b16 b17 o0 o1 o2 o3 o4 o5 o6 o7 o8 o9 o10 o11 o12 o13 o14 o15 hb
   simp only [e17,Nat.zero_add,Nat.reduceAdd] at e16 l16 e15 l15 e14 l14 e13 l13 e12 l12 e11 l11 e10 l10 e9 l9 e8 l8 e7 l7 e6 l6 e5 l5 e4 l4 e3 l3 e2 l2 e1 l1
   simp only [e16,Nat.zero_add,Nat.reduceAdd] at e15 l15 e14 l14 e13 l13 e12 l12 e11 l11 e10 l10 e9 l9 e8 l8 e7 l7 e6 l6 e5 l5 e4 l4 e3 l3 e2 l2 e1 l1
   simp only [e15,Nat.zero_add,Nat.reduceAdd] at e14 l14 e13 l13 e12 l12 e11 l11 e10 l10 e9 l9 e8 l8 e7 l7 e6 l6 e5 l5 e4 l4 e3 l3 e2 l2 e1 l1
   simp only [e14,Nat.zero_add,Nat.reduceAdd] at e13 l13 e12 l12 e11 l11 e10 l10 e9 l9 e8 l8 e7 l7 e6 l6 e5 l5 e4 l4 e3 l3 e2 l2 e1 l1
   simp only [e13,Nat.zero_add,Nat.reduceAdd] at e12 l12 e11 l11 e10 l10 e9 l9 e8 l8 e7 l7 e6 l6 e5 l5 e4 l4 e3 l3 e2 l2 e1 l1
   simp only [e12,Nat.zero_add,Nat.reduceAdd] at e11 l11 e10 l10 e9 l9 e8 l8 e7 l7 e6 l6 e5 l5 e4 l4 e3 l3 e2 l2 e1 l1
   simp only [e11,Nat.zero_add,Nat.reduceAdd] at e10 l10 e9 l9 e8 l8 e7 l7 e6 l6 e5 l5 e4 l4 e3 l3 e2 l2 e1 l1
   simp only [e10,Nat.zero_add,Nat.reduceAdd] at e9 l9 e8 l8 e7 l7 e6 l6 e5 l5 e4 l4 e3 l3 e2 l2 e1 l1
   simp only [e9,Nat.zero_add,Nat.reduceAdd] at e8 l8 e7 l7 e6 l6 e5 l5 e4 l4 e3 l3 e2 l2 e1 l1
   simp only [e8,Nat.zero_add,Nat.reduceAdd] at e7 l7 e6 l6 e5 l5 e4 l4 e3 l3 e2 l2 e1 l1
   simp only [e7,Nat.zero_add,Nat.reduceAdd] at e6 l6 e5 l5 e4 l4 e3 l3 e2 l2 e1 l1
   simp only [e6,Nat.zero_add,Nat.reduceAdd] at e5 l5 e4 l4 e3 l3 e2 l2 e1 l1
   simp only [e5,Nat.zero_add,Nat.reduceAdd] at e4 l4 e3 l3 e2 l2 e1 l1
   simp only [e4,Nat.zero_add,Nat.reduceAdd] at e3 l3 e2 l2 e1 l1
   simp only [e3,Nat.zero_add,Nat.reduceAdd] at e2 l2 e1 l1
   rw [e2] at l1
   dsimp only at l1
   omega
end Go.Proofs.YtigjingielnaoaaGreatDoor
namespace Go.Proofs.YtigjingielnaoaaGreatDoor
open Go.RowKit
theorem XH {a b:List Nat} (ha : ∀ x∈a,x<256) (hb : ∀ x∈b,x<256) (hl:a.length=b.length) (h:leG a=leG b):a=b:=by
 rw [← Yv a ha,← Yv b hb,h,hl]
theorem vq (x:ByteArray) (h:4≤x.size) (L:List UInt8) (m:Nat) (hL:L.length=4) (hm:leG (L.map UInt8.toNat)=m):((x.extract 0 4).toList==L)=decide (gN x 0 4=m):=by
 rw [yT,Bool.eq_iff_iff,decide_eq_true_eq,decide_eq_true_eq,zr]
 unfold gN
 rw [← hm,Nat.sub_zero]
 refine ⟨fun e=>by rw [e],fun e=>XH (fun y hy=>yk x y (List.mem_of_mem_drop (List.mem_of_mem_take hy))) (fun y hy=>?_) (by rw [List.length_take,List.length_drop,zg,List.length_map,hL]; omega) e⟩
 obtain ⟨z,_,rfl⟩:=List.mem_map.1 hy
 exact z.toNat_lt
theorem KO (s:ByteArray) (i k:Nat) (h:i+k≤s.size):ZR (s.extract i s.size) k = .tuple #[.int .u64 (gN s i k:Nat),.bool true]:=by
 unfold ZR gN
 have e:((ze s).drop i).take (s.size-i)=(ze s).drop i:=List.take_of_length_le (by rw [List.length_drop,zg]; omega)
 rw [if_pos (by rw [ByteArray.size_extract]; omega),zr,e]
set_option maxRecDepth 100000 in
theorem zo (s:ByteArray) (i k:Nat) (w:World) (h:i+k≤s.size) (hs:s.size≤1000000) (hk:k≤4) :
 Calls Tryz.prog 124 #[.string s,.int .i64 (i:Nat),.int .i64 (k:Nat)] w fun e w'=>e = .returned (.int .i64 (gN s i k:Nat))∧Upd [] w w':=by
 have HG:=Lib.hid (fun w=>zdg (s.extract i s.size) k w (by rw [ByteArray.size_extract]; omega) (by omega))
 rw [KO s i k h] at HG
 have hlt:gN s i k<4294967296:=Nat.lt_of_lt_of_le (zC s i k) (Nat.le_trans (Nat.pow_le_pow_right (by omega) hk) (by decide))
 generalize gN s i k=v at *
 have h1:(i:Int)≤(s.size:Int):=by omega
 go_enter Tryz.func124,Tryz.ntmps124
 go_wp2_with fail
 refine (HG.out _).mono ?_
 rintro e w1 ⟨rfl,hU⟩
 go_wp2
 go_ret
 exact ⟨rfl,hU⟩
def XG (x:RecD×Nat×Bool×Nat):Value := .tuple #[x.1.v,.int .i64 (x.2.1:Nat),.bool x.2.2.1,.int .i64 (x.2.2.2:Nat)]
theorem xz {l:List Nat} (h:(zv l).2.2=true):(zv l).1.length≤200:=by
 unfold zv at h ⊢
 repeat' split
 · rename_i h1; exact QK h1
 · simp
 · rename_i h1
   rcases h1 with h1 | h1
   · exact QK h1
   · rw [h1]; decide
 · simp
theorem zS {fn:Func} {p t u v:Tmp} (h:fn.results = #[.cell p 52,.tmp t,.tmp u,.tmp v]) (tmps:Array Value) (w:World) (g:Nat) (c0 c1 c2 c3 c4 c5 c6 c7 c8:Value) (hp:tmps.getD p undef = .pointer (some ⟨g,0,none⟩)) (hB:Blk w g [c0,c1,c2,c3,c4,c5,c6,c7,c8] 52) :
 (results fn tmps).run Tryz.prog w = .ok (.tuple #[.agg #[c0,c1,c2,c3,c4,c5,c6,c7,c8],tmps.getD t undef,tmps.getD u undef,tmps.getD v undef]) w:=by
 have h0:=hB.cell 0 rfl
 have h1:=hB.cell 1 rfl
 have h2:=hB.cell 2 rfl
 have h3:=hB.cell 3 rfl
 have h4:=hB.cell 4 rfl
 have h5:=hB.cell 5 rfl
 have h6:=hB.cell 6 rfl
 have h7:=hB.cell 7 rfl
 have h8:=hB.cell 8 rfl
 have hp2:tmps[p]?.getD undef = .pointer (some ⟨g,0,none⟩):=by rw [← hp]; simp
 simp [results,h,go_sem,hp2,h0,h1,h2,h3,h4,h5,h6,h7,h8]
theorem Blk.set9 {w:World} {b:Nat} {a0 a1 a2 a3 a4 a5 a6 a7 a8:Value} {t:TypeId} (h:Blk w b [a0,a1,a2,a3,a4,a5,a6,a7,a8] t) (v0 v1 v2 v3 v4 v5 v6 v7 v8:Value) :
 Blk (((((((((w.setCell ⟨b,0,none⟩ v0).setCell ⟨b,1,none⟩ v1).setCell ⟨b,2,none⟩ v2).setCell ⟨b,3,none⟩ v3).setCell ⟨b,4,none⟩ v4).setCell ⟨b,5,none⟩ v5).setCell ⟨b,6,none⟩ v6).setCell ⟨b,7,none⟩ v7).setCell ⟨b,8,none⟩ v8) b [v0,v1,v2,v3,v4,v5,v6,v7,v8] t :=
 ((((((((h.set 0 v0).set 1 v1).set 2 v2).set 3 v3).set 4 v4).set 5 v5).set 6 v6).set 7 v7).set 8 v8
theorem Upd.set9 {fp:List Nat} {w0 w:World} {b:Nat} (h:Upd fp w0 w) (hb:b∈fp∨w0.heap.size≤b) (v0 v1 v2 v3 v4 v5 v6 v7 v8:Value) :
 Upd fp w0 (((((((((w.setCell ⟨b,0,none⟩ v0).setCell ⟨b,1,none⟩ v1).setCell ⟨b,2,none⟩ v2).setCell ⟨b,3,none⟩ v3).setCell ⟨b,4,none⟩ v4).setCell ⟨b,5,none⟩ v5).setCell ⟨b,6,none⟩ v6).setCell ⟨b,7,none⟩ v7).setCell ⟨b,8,none⟩ v8) :=
 ((((((((h.setCell hb v0).setCell hb v1).setCell hb v2).setCell hb v3).setCell hb v4).setCell hb v5).setCell hb v6).setCell hb v7).setCell hb v8
theorem Blk.far9 {w:World} {d b:Nat} {cs:List Value} {t:TypeId} (h:Blk w d cs t) (hb:d≠b) (v0 v1 v2 v3 v4 v5 v6 v7 v8:Value):Blk (((((((((w.setCell ⟨b,0,none⟩ v0).setCell ⟨b,1,none⟩ v1).setCell ⟨b,2,none⟩ v2).setCell ⟨b,3,none⟩ v3).setCell ⟨b,4,none⟩ v4).setCell ⟨b,5,none⟩ v5).setCell ⟨b,6,none⟩ v6).setCell ⟨b,7,none⟩ v7).setCell ⟨b,8,none⟩ v8) d cs t:=(Blk.setFar (Blk.setFar (Blk.setFar (Blk.setFar (Blk.setFar (Blk.setFar (Blk.setFar (Blk.setFar (Blk.setFar h (a:=⟨b,0,none⟩) v0 hb) (a:=⟨b,1,none⟩) v1 hb) (a:=⟨b,2,none⟩) v2 hb) (a:=⟨b,3,none⟩) v3 hb) (a:=⟨b,4,none⟩) v4 hb) (a:=⟨b,5,none⟩) v5 hb) (a:=⟨b,6,none⟩) v6 hb) (a:=⟨b,7,none⟩) v7 hb) (a:=⟨b,8,none⟩) v8 hb)
def Rd1 (w0:World) (b:Nat) (w:World):Prop:=w0.heap.size≤b∧Blk w b [.string { data := #[] },.int .i64 0,.int .u32 0,.int .i64 0,.int .i64 0,.int .i64 0,.int .i64 0,.int .u32 0,.int .i64 0] 52∧Upd [] w0 w
theorem Rd1.upd {w0 w w':World} {b:Nat} {fp:List Nat} (h:Rd1 w0 b w) (hu:Upd fp w w') (hf : ∀ k,k∈fp→b<k):Rd1 w0 b w':=⟨h.1,h.2.1.upd hu (fun hm=>by have:=hf b hm; omega),h.2.2.trans hu (fun k hk => .inr (by have:=hf k hk; have:=h.1; omega))⟩
def Rd3 (w0:World) (b:Nat) (w:World):Prop:=w0.heap.size≤b∧Blk w b [.string .empty,.int .i64 0,.int .u32 0,.int .i64 0,.int .i64 0,.int .i64 0,.int .i64 0,.int .u32 0,.int .i64 0] 52∧Blk w (b+1) [.string .empty,.int .i64 0,.int .u32 0,.int .i64 0,.int .i64 0,.int .i64 0,.int .i64 0,.int .u32 0,.int .i64 0] 52∧Upd [] w0 w
theorem Rd3.new (w:World):Rd3 w w.heap.size ((w.alloc (.cells #[.string .empty,.int .i64 0,.int .u32 0,.int .i64 0,.int .i64 0,.int .i64 0,.int .i64 0,.int .u32 0,.int .i64 0] 52)).alloc (.cells #[.string .empty,.int .i64 0,.int .u32 0,.int .i64 0,.int .i64 0,.int .i64 0,.int .i64 0,.int .u32 0,.int .i64 0] 52)):=by
 have h:=Blk.new (w.alloc (.cells #[.string .empty,.int .i64 0,.int .u32 0,.int .i64 0,.int .i64 0,.int .i64 0,.int .i64 0,.int .u32 0,.int .i64 0] 52)) [.string .empty,.int .i64 0,.int .u32 0,.int .i64 0,.int .i64 0,.int .i64 0,.int .i64 0,.int .u32 0,.int .i64 0] 52
 rw [World.size_alloc] at h
 exact ⟨Nat.le_refl _,(Blk.new w [.string .empty,.int .i64 0,.int .u32 0,.int .i64 0,.int .i64 0,.int .i64 0,.int .i64 0,.int .u32 0,.int .i64 0] 52).alloc _,h,((Upd.refl [] w).alloc _).alloc _⟩
theorem Rd3.upd {w0 w w':World} {b:Nat} (h:Rd3 w0 b w) (hu:Upd [] w w'):Rd3 w0 b w':=⟨h.1,h.2.1.upd hu (by simp),h.2.2.1.upd hu (by simp),h.2.2.2.then hu⟩
theorem Rd3.far {w0 w:World} {b q o:Nat} (h:Rd3 w0 b w) (hq:b+1<q) (v:Value):Rd3 w0 b (w.setCell ⟨q,o,none⟩ v):=⟨h.1,h.2.1.setFar _ (by simp; omega),h.2.2.1.setFar _ (by simp; omega),h.2.2.2.setCell (p:=⟨q,o,none⟩) (.inr (by have:=h.1; dsimp only; omega)) v⟩
theorem VL (x:ByteArray) (i k:Nat) (h:i+k≤x.size) (hs:x.size≤1000000) (hk:k≤4) : ∃ n,gN x i k=n∧n<256^k∧Hid (∀ w,Calls Tryz.prog 124 #[.string x,.int .i64 (i:Nat),.int .i64 (k:Nat)] w fun e w'=>e = .returned (.int .i64 (n:Nat))∧Upd [] w w') :=
 ⟨_,rfl,zC x i k,Lib.hid (fun w=>zo x i k w h hs hk)⟩
end Go.Proofs.YtigjingielnaoaaGreatDoor
namespace Go.Proofs.YtigjingielnaoaaGreatDoor
open Go.RowKit
theorem zao (r:RS):(xt r).1.beg<4294967296∧(xt r).1.flags<65536∧(xt r).1.disk<65536∧(xt r).1.attr<4294967296∧(xt r).1.m<65536∧(xt r).1.t<4294967296∧(xt r).1.sum<4294967296∧(xt r).1.l<4294967296∧(xt r).1.wh<4294967296∧(xt r).1.pos<4294967296∧(∀ x∈(xt r).1.name,x<256)∧(xt r).1.name.length≤65535:=by
 unfold xt
 dsimp only
 refine ⟨RS.num_lt _ 4,RS.num_lt _ 2,RS.num_lt _ 2,RS.num_lt _ 4,RS.num_lt _ 2,RS.num_lt _ 4,RS.num_lt _ 4,RS.num_lt _ 4,RS.num_lt _ 4,RS.num_lt _ 4,RS.text_lt _ _,?_⟩
 refine Nat.le_trans (RS.text_len _ _) ?_
 have:=RS.num_lt ((((((((r.num 4).2.text 4).2.num 2).2.num 2).2.num 4).2.num 4).2.num 4).2.num 4).2 2
 omega
def qY (k:Nat):Nat:=if k=2 then 16384 else 32768
def jV (h:ChD):RecD:=⟨zf (zv h.name).1,h.m,h.sum,h.l,h.wh,((zv h.name).2.1:Nat),(h.attr/65536%512:Nat),h.t,h.pos⟩
def Jd (h:ChD):Bool:=decide (h.beg=33639248)&&(decide (h.flags=2048)||decide (h.flags=2056))&&decide (h.disk=0)
def XZ (h:ChD):Bool:=decide (h.attr/65536/4096*4096=qY (zv h.name).2.1)
def yf (x:ByteArray):RecD×Nat×Nat :=
 if x.size<46∨x.size<yB x then (zT,0,3)
 else if Jd (xt ⟨x,0,false⟩).1=false then (zT,0,2)
 else if (zv (xt ⟨x,0,false⟩).1.name).2.2=false then (zT,0,5)
 else if XZ (xt ⟨x,0,false⟩).1=false then (zT,0,8)
 else if zM (jV (xt ⟨x,0,false⟩).1)≠0 then (zT,0,zM (jV (xt ⟨x,0,false⟩).1))
 else (jV (xt ⟨x,0,false⟩).1,yB x,0)
def zt (s:ByteArray) (a:Int):RecD×Nat×Nat:=if a<0∨(s.size:Int)<a then (zT,0,3) else yf (s.extract a.toNat s.size)
def qf (x:RecD×Nat×Nat):Value := .tuple #[x.1.v,.int .i64 (x.2.1:Nat),.int .i64 (x.2.2:Nat)]
theorem ZO (i:Nat):Nat.testBit 61440 i=(decide (12≤i)&&decide (i<16)):=by
 rw [show 61440=2^12*(2^4-1) from rfl,Nat.testBit_two_pow_mul,Nat.testBit_two_pow_sub_one]
 by_cases h:12≤i
 · simp [h]; omega
 · simp [h]
theorem zbL (h:Nat) (hh:h<65536):h &&& 61440=h/4096*4096:=by
 apply Nat.eq_of_testBit_eq
 intro i
 rw [Nat.testBit_and,Nat.mul_comm,show 4096=2^12 from rfl,Nat.testBit_two_pow_mul,Nat.testBit_div_two_pow,ZO]
 by_cases h1:12≤i
 · by_cases h2:i<16
   · rw [show i-12+12=i by omega]; simp [h1,h2]
   · have:h.testBit i=false:=Nat.testBit_lt_two_pow (Nat.lt_of_lt_of_le hh (by rw [show 65536=2^16 from rfl]; exact Nat.pow_le_pow_right (by omega) (by omega)))
     rw [show i-12+12=i by omega]; simp [this]
 · simp [h1]
theorem zc6 (s:ByteArray) (i:Nat) (h:i+2≤s.size):gN s i 4=gN s i 2+65536*gN s (i+2) 2:=by
 unfold gN
 have e:((ze s).drop i).take 4=((ze s).drop i).take 2++((ze s).drop (i+2)).take 2:=by
  rw [show 4=2+2 from rfl,List.take_add,List.drop_drop]
 rw [e,kd,List.length_take,List.length_drop,zg,Nat.min_eq_left (by omega)]
theorem zeg (s:ByteArray) (h:42≤s.size):gN s 38 4/65536=gN s 40 2:=by
 have:=zc6 s 38 (by omega)
 have h2:gN s 38 2<65536:=zC s 38 2
 rw [show 38+2=40 from rfl] at this
 omega
theorem zen (s:ByteArray) (i:Nat) (h:i+2≤s.size):gN s i 2=s[i].toNat+256*s[i+1].toNat:=by
 unfold gN
 have e:((ze s).drop i).take 2=[s[i].toNat,s[i+1].toNat]:=by
  apply List.ext_getElem?
  intro j
  rw [List.getElem?_take]
  rcases (by omega:j=0∨j=1∨2≤j) with rfl | rfl | h2
  · rw [if_pos (by omega),List.getElem?_drop,Nat.add_zero,bytesOf_get? s i (by omega)]; rfl
  · rw [if_pos (by omega),List.getElem?_drop,bytesOf_get? s (i+1) (by omega)]; rfl
  · rw [if_neg (by omega)]; simp [h2]
 rw [e]; simp [leG]
theorem XQ {l:List Nat} (h:(zv l).2.2=true):(zv l).2.1=1∨(zv l).2.1=2:=by
 unfold zv at h ⊢
 repeat' split
 all_goals simp_all
def zR (s:ByteArray):Nat→Nat×List RecD×Nat
 | 0=>(0,[],0)
 | i+1 =>
   let p:=zR s i
   if p.1≠0 then p else
   let x:=zt s p.2.2
   if x.2.2≠0 then (x.2.2,[],0) else (0,p.2.1++[x.1],p.2.2+x.2.1)
theorem zc9 (s:ByteArray) {i:Nat} (h:(zR s i).1≠0) : ∀ j,i≤j→zR s j=zR s i
 | j,hj=>by
   induction j with
   | zero=>rw [Nat.le_zero.1 hj]
   | succ j ih =>
     rcases Nat.lt_or_ge j i with h1 | h1
     · rw [show j+1=i by omega]
     · have:=ih h1
       rw [← this] at h ⊢
       show (if (zR s j).1≠0 then zR s j else _)=_
       rw [if_pos h]
theorem Xt (s:ByteArray) {i:Nat} {l:List RecD} {a:Nat} (h:zR s i=(0,l,a)) (hx:(zt s a).2.2=0):zR s (i+1)=(0,l++[(zt s a).1],a+(zt s a).2.1):=by
 show (if (zR s i).1≠0 then zR s i else if (zt s (zR s i).2.2).2.2≠0 then ((zt s (zR s i).2.2).2.2,[],0) else (0,(zR s i).2.1++[(zt s (zR s i).2.2).1],(zR s i).2.2+(zt s (zR s i).2.2).2.1))=_
 rw [h]
 dsimp only
 rw [if_neg (by omega),if_neg (by omega)]
theorem Xj (s:ByteArray) {i:Nat} {l:List RecD} {a:Nat} (h:zR s i=(0,l,a)) (hx:(zt s a).2.2≠0) (n:Nat) (hn:i<n):zR s n=((zt s a).2.2,[],0):=by
 have e:zR s (i+1)=((zt s a).2.2,[],0):=by
  show (if (zR s i).1≠0 then zR s i else if (zt s (zR s i).2.2).2.2≠0 then ((zt s (zR s i).2.2).2.2,[],0) else (0,(zR s i).2.1++[(zt s (zR s i).2.2).1],(zR s i).2.2+(zt s (zR s i).2.2).2.1))=_
  rw [h]
  dsimp only
  rw [if_neg (by omega),if_pos hx]
 rw [zc9 s (i:=i+1) (by rw [e]; exact hx) n hn,e]
def yM:List RecD→Bool
 | []=>false
 | r::l=>decide (ze r.p∈l.map fun x=>ze x.p)||yM l
theorem js : ∀ (l:List RecD) (r:RecD),yM (l++[r])=(yM l||decide (ze r.p∈l.map fun x=>ze x.p))
 | [],r=>by simp [yM]
 | x::l,r=>by
   rw [List.cons_append,yM,yM,js l r,Bool.eq_iff_iff]
   simp only [List.map_append,List.map_cons,List.map_nil,List.mem_append,List.mem_cons,List.not_mem_nil,or_false,Bool.or_eq_true,decide_eq_true_eq]
   constructor
   · rintro ((h | h) | h | h)
     · exact .inl (.inl h)
     · exact .inr (.inl h.symm)
     · exact .inl (.inr h)
     · exact .inr (.inr h)
   · rintro ((h | h) | h | h)
     · exact .inl (.inl h)
     · exact .inr (.inl h)
     · exact .inl (.inr h.symm)
     · exact .inr (.inr h)
def zW (s:ByteArray) (many:Int):List RecD×Nat :=
 if many<0 then ([],1)
 else if (zR s many.toNat).1≠0 then ([],(zR s many.toNat).1)
 else if (zR s many.toNat).2.2<s.size then ([],14)
 else if yM (zR s many.toNat).2.1=true then ([],6)
 else ((zR s many.toNat).2.1,0)
theorem KJ (x:ByteArray) (h:(yf x).2.2=0):(yf x).2.1=yB x∧yB x≤x.size∧46≤x.size:=by
 unfold yf at h ⊢
 repeat' split
 all_goals simp_all
theorem Jc (s:ByteArray) (a:Nat) (h:(zt s a).2.2=0) (ha:a≤s.size):a+(zt s a).2.1≤s.size:=by
 unfold zt at h ⊢
 by_cases h1:(a:Int)<0∨(s.size:Int)<a
 · omega
 · rw [if_neg h1] at h ⊢
   obtain ⟨e,h2,_⟩:=KJ _ h
   rw [e]
   rw [ByteArray.size_extract] at h2
   simp at h2 ⊢
   omega
theorem Yf (s:ByteArray) : ∀ i,(zR s i).2.2≤s.size
 | 0=>Nat.zero_le _
 | i+1=>by
   have ih:=Yf s i
   show (if (zR s i).1≠0 then zR s i else if (zt s (zR s i).2.2).2.2≠0 then ((zt s (zR s i).2.2).2.2,[],0) else (0,(zR s i).2.1++[(zt s (zR s i).2.2).1],(zR s i).2.2+(zt s (zR s i).2.2).2.1)).2.2≤_
   by_cases h1:(zR s i).1≠0
   · rw [if_pos h1]; exact ih
   · rw [if_neg h1]
     by_cases h2:(zt s (zR s i).2.2).2.2≠0
     · rw [if_pos h2]; exact Nat.zero_le _
     · rw [if_neg h2]; exact Jc s _ (by omega) ih
theorem VG (x:ByteArray):(yf x).1.Fits:=by
 have hn:zT.Fits:=⟨by decide,by decide,by decide⟩
 unfold yf
 repeat' split
 all_goals first | exact hn | skip
 rename_i h1 h2 h3 h4 h5
 obtain ⟨b1,b2,b3,b4,b5,b6,b7,b8,b9,b10,b11,b12⟩:=zao ⟨x,0,false⟩
 refine ⟨?_,b7,b6⟩
 show (zf (zv (xt ⟨x,0,false⟩).1.name).1).size≤1000
 rw [zh]
 have:=xz (l:=(xt ⟨x,0,false⟩).1.name) (by simpa using h3)
 omega
theorem JB (s:ByteArray) (a:Int):(zt s a).1.Fits:=by
 unfold zt
 split
 · exact ⟨by decide,by decide,by decide⟩
 · exact VG _
theorem Xm (s:ByteArray) : ∀ i,∀ r∈(zR s i).2.1,r.Fits
 | 0=>by intro r hr; cases hr
 | i+1=>by
   have ih:=Xm s i
   show ∀ r∈(if (zR s i).1≠0 then zR s i else if (zt s (zR s i).2.2).2.2≠0 then ((zt s (zR s i).2.2).2.2,[],0) else (0,(zR s i).2.1++[(zt s (zR s i).2.2).1],(zR s i).2.2+(zt s (zR s i).2.2).2.1)).2.1,r.Fits
   by_cases h1:(zR s i).1≠0
   · rw [if_pos h1]; exact ih
   · rw [if_neg h1]
     by_cases h2:(zt s (zR s i).2.2).2.2≠0
     · rw [if_pos h2]; intro r hr; cases hr
     · rw [if_neg h2]
       intro r hr
       rcases List.mem_append.1 hr with h | h
       · exact ih r h
       · rw [List.mem_singleton.1 h]; exact JB s _
end Go.Proofs.YtigjingielnaoaaGreatDoor
namespace Go.Proofs.YtigjingielnaoaaGreatDoor
open Go.RowKit
theorem zaj (s:ByteArray) : ∀ i,(zR s i).2.1.length≤i
 | 0=>Nat.le_refl _
 | i+1=>by
   have h:=zaj s i
   show (if (zR s i).1≠0 then zR s i else if (zt s (zR s i).2.2).2.2≠0 then ((zt s (zR s i).2.2).2.2,[],0) else (0,(zR s i).2.1++[(zt s (zR s i).2.2).1],(zR s i).2.2+(zt s (zR s i).2.2).2.1)).2.1.length≤i+1
   repeat' split
   · omega
   · simp
   · simp; omega
theorem vy (s:ByteArray) (n:Int) : ∀ r∈(zW s n).1,r.Fits:=fun r hr=>by
 unfold zW at hr
 repeat' split at hr
 all_goals first
  | (cases hr; done)
  | exact Xm s _ r hr
theorem QO (s:ByteArray) (n:Nat):(zW s (n:Nat)).1.length≤n:=by
 unfold zW
 repeat' split
 all_goals first
  | exact Nat.zero_le _
  | exact zaj s n
def xY (s:ByteArray):List RecD×EgD×Nat :=
 if (egF s).2.2=false then ([],EgD.no,15)
 else if (egF s).1.pos+(egF s).1.size≠(egF s).2.1 then ([],EgD.no,2)
 else if (zW (s.extract (egF s).1.pos (egF s).2.1) ((egF s).1.many:Nat)).2≠0 then ([],EgD.no,(zW (s.extract (egF s).1.pos (egF s).2.1) ((egF s).1.many:Nat)).2)
 else if (qk s (zW (s.extract (egF s).1.pos (egF s).2.1) ((egF s).1.many:Nat)).1).2≠0 then ([],EgD.no,(qk s (zW (s.extract (egF s).1.pos (egF s).2.1) ((egF s).1.many:Nat)).1).2)
 else ((zW (s.extract (egF s).1.pos (egF s).2.1) ((egF s).1.many:Nat)).1,(egF s).1,0)
end Go.Proofs.YtigjingielnaoaaGreatDoor
