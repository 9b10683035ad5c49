/- Package runs: Count: its walk. -/
import Derived.Test.YtfkcdnaghndgfaaGreatDoorQBI
import Derived.Test.YtfkcdnaghndgfaaGreatDoorQBJ
import Derived.Test.YtfkcdnaghndgfaaGreatDoorQAP
import Derived.Test.YtfkcdnaghndgfaaGreatDoorQAA
import Derived.Deep.RegionHeld3
set_option linter.unusedVariables false
set_option linter.unusedSimpArgs false
set_option linter.unusedSectionVars false
namespace Go.Proofs.YtfkcdnaghndgfaaGreatDoor
open Go.RowKit
structure StpIn (w:World) (a:Option Addr) (len:Nat) (l:List StpD):Prop where
 len:l.length=len
 cell : ∀ i (h:i<l.length),∃ b off,a=some ⟨b,off,none⟩∧(w.cell? ⟨b,off+i*3,none⟩=some (.int .i64 (l[i].sym:Nat))∧w.cell? ⟨b,off+i*3+1,none⟩=some (.int .i64 (l[i].bits:Nat))∧w.cell? ⟨b,off+i*3+2,none⟩=some (.int .i64 (l[i].more:Nat)))
theorem StpIn.pure {w w':World} {a:Option Addr} {len:Nat} {l:List StpD} (h:StpIn w a len l) (hU:Upd [] w w'):StpIn w' a len l :=
 ⟨h.len,fun i hi=>by
  obtain ⟨b,off,e,c1,c2,c3⟩:=h.cell i hi
  have hb:b<w.heap.size:=World.block_lt_of_cell? w _ c1
  exact ⟨b,off,e,(hU.at hb (by simp) _).trans c1,(hU.at hb (by simp) _).trans c2,(hU.at hb (by simp) _).trans c3⟩⟩
theorem kS : ∀ (l:List StpD) (i:Nat) (h:i<l.length) (j:Nat),j<3→(jb l)[i*3+j]? =l[i].cs[j]?
 | [],i,h,j,_=>absurd h (by simp)
 | s::l,0,h,j,hj=>by
   rw [Nat.zero_mul,Nat.zero_add]
   unfold jb
   rw [List.flatMap_cons,List.getElem?_append_left (by simp [StpD.cs]; omega)]
   rfl
 | s::l,i+1,h,j,hj=>by
   have ih:=kS l i (by simpa using h) j hj
   unfold jb at *
   rw [List.flatMap_cons,List.getElem?_append_right (by simp [StpD.cs]; omega)]
   rw [show (i+1)*3+j-s.cs.length=i*3+j by simp [StpD.cs]; omega,ih]
   rfl
theorem StpIn.row {w:World} {a:Option Addr} {n c:Nat} {l:List StpD} {T:TypeId} (h:Row w T 3 (.slice a n c) n (jb l)) (hl:l.length=n):StpIn w a n l :=
 ⟨hl,fun i hi=>by
  obtain ⟨g,cc,e,_,_⟩:=h.form' (by omega)
  cases e
  refine ⟨g,0,rfl,?_,?_,?_⟩
  · rw [Nat.zero_add]; exact h.cell (i*3) (by have:=kS l i hi 0 (by omega); rw [Nat.add_zero] at this; rw [this]; rfl)
  · rw [Nat.zero_add]; exact h.cell (i*3+1) (by rw [kS l i hi 1 (by omega)]; rfl)
  · rw [Nat.zero_add]; exact h.cell (i*3+2) (by rw [kS l i hi 2 (by omega)]; rfl)⟩
def YB (c:List Nat) (s:StpD):List Nat:=if s.sym≤18 then xr c s.sym else c
def zE (l:List StpD):List Nat:=l.foldl YB (List.replicate 19 0)
theorem Jb (l:List StpD) (s:StpD):zE (l++[s])=YB (zE l) s:=by unfold zE; rw [List.foldl_append]; rfl
theorem zfi (c:List Nat) (s:StpD):(YB c s).length=c.length:=by unfold YB; split; exact QF _ _; rfl
theorem qC (l:List StpD) : ∀ i,i≤l.length→(zE (l.take i)).length=19 ∧ ∀ x∈zE (l.take i),x≤i
 | 0,_=>⟨List.length_replicate,fun x hx=>by have:=List.eq_of_mem_replicate (show x∈List.replicate 19 0 from hx); omega⟩
 | i+1,h=>by
   obtain ⟨h1,h2⟩:=qC l i (by omega)
   rw [List.take_succ_eq_append_getElem (show i<l.length by omega),Jb]
   refine ⟨by rw [zfi,h1],?_⟩
   unfold YB
   split
   · exact XW _ _ _ h2
   · intro x hx; have:=h2 x hx; omega
theorem zir:(Tryz.prog.info? 212).map (·.size)=some 19:=by kernel_rfl
def zi7 (l:List StpD) (w:World) (e:Ending) (w':World):Prop:=e = .returned (.agg (zg (zE l)).toArray)∧Upd [] w w'
set_option maxRecDepth 100000 in
set_option maxHeartbeats 6400000 in
theorem Kg (l:List StpD) (a:Option Addr) (n cap:Nat) (w:World) (hI:StpIn w a n l) (hn:n≤100000) :
 Calls Tryz.prog 159 #[.slice a n cap] w fun e w'=>zi7 l w e w':=by
 have HI:=Lib.hid hI
 have HLN:=Lib.hid hI.len
 have HCO:=Lib.hid (qC l)
 clear hI
 have HB0:Hid (Blk (w.alloc (.cells (zg (zE (l.take 0))).toArray 212)) w.heap.size (zg (zE (l.take 0))) 212):=Lib.hid (Blk.new w _ _)
 have HU0:Hid (Upd [] w (w.alloc (.cells (zg (zE (l.take 0))).toArray 212))):=Lib.hid ((Upd.refl [] w).alloc _)
 go_enter Tryz.func159,Tryz.ntmps159
 go_upto_region 1 with fail
 change Code.wp _ _ _ _ (w.alloc (.cells (zg (zE (l.take 0))).toArray 212))
 generalize w.alloc (.cells (zg (zE (l.take 0))).toArray 212)=w1 at *
 generalize hg:w.heap.size=g at *
 have HG:=Lib.hid hg
 clear hg
 go_wp2
 go_loopg [7] 200000 (fun gg s7 wr => ∃ i:Nat,i≤n∧gg=200000-i∧s7 = .int .i64 (i:Nat)∧Hid (Blk wr g (zg (zE (l.take i))) 212)∧Hid (Upd [] w wr))
 case atStart=>exact ⟨0,by omega,by omega,rfl,HB0,HU0⟩
 case round =>
  obtain ⟨i,hin,rfl,rfl,HB,HU⟩:=hrel
  by_cases hc:i<n
  · have hcz:(i:Int)<(n:Int):=by omega
    have hil:i<l.length:=by rw [HLN.out]; exact hc
    have hw1:IntKind.i64.wrap ((i:Int)+1)=((i+1:Nat):Int):=by rw [IntWalk.i64_in _ (by omega)]; rfl
    obtain ⟨b,off,rfl,hc1,hc2,hc3⟩:=(HI.out.pure HU.out).cell i hil
    have HST:Hid (zE (l.take (i+1))=YB (zE (l.take i)) l[i]):=Lib.hid (by rw [List.take_succ_eq_append_getElem hil,Jb])
    obtain ⟨hlc,hbc⟩:=HCO.out i (by omega)
    generalize l[i]=s at *
    generalize zE (l.take i)=c at *
    obtain ⟨sy,sb,sm⟩:=s
    dsimp only at hc1 hc2 hc3
    have hT4:=Blk.new wr [.int .i64 (sy:Nat),.int .i64 (sb:Nat),.int .i64 (sm:Nat)] 217
    have hB4:=HB.out.alloc (.cells #[.int .i64 (sy:Nat),.int .i64 (sb:Nat),.int .i64 (sm:Nat)] 217)
    have hU4:=HU.out.alloc (.cells #[.int .i64 (sy:Nat),.int .i64 (sb:Nat),.int .i64 (sm:Nat)] 217)
    clear hil HB HU
    go_upto_region 4 with fail
    change Code.wp _ _ _ _ (wr.alloc (.cells #[.int .i64 (sy:Nat),.int .i64 (sb:Nat),.int .i64 (sm:Nat)] 217))
    generalize wr.alloc (.cells #[.int .i64 (sy:Nat),.int .i64 (sb:Nat),.int .i64 (sm:Nat)] 217)=w4 at *
    generalize wr.heap.size=q at *
    have t0:=hT4.cell 0 rfl
    have HB4:=Lib.hid hB4
    have HU4:=Lib.hid hU4
    clear hT4 hB4 hU4 hc1 hc2 hc3
    by_cases h18:sy≤18
    · have h18z:(sy:Int)≤18:=by omega
      have hgt:c[sy]? =some (c.getD sy 0):=by rw [List.getD_eq_getElem?_getD,List.getElem?_eq_getElem (by omega)]; rfl
      have hle:c.getD sy 0≤i:=hbc _ (List.mem_of_getElem? hgt)
      have ca:=HB4.out.cell sy (zL c sy _ hgt)
      have fa:=HB4.out.frz sy
      have HAd:Hid (YB c ⟨sy,sb,sm⟩=c.set sy (c.getD sy 0+1)):=Lib.hid (by unfold YB; rw [if_pos h18]; rfl)
      generalize c.getD sy 0=y at *
      have hwy:IntKind.i64.wrap ((y:Int)+1)=((y+1:Nat):Int):=by rw [IntWalk.i64_in _ (by omega)]; rfl
      have h19:(sy:Int)<19:=by omega
      have HB5:Hid (Blk (w4.setCell ⟨g,sy,none⟩ (.int .i64 ((y+1:Nat):Int))) g (zg (zE (l.take (i+1)))) 212):=Lib.hid (by
       rw [HST.out,HAd.out,xj]
       exact HB4.out.set sy _)
      have HU5:=Lib.hid (HU4.out.setCell (p:=⟨g,sy,none⟩) (.inr (by have:=HG.out; show w.heap.size≤g; omega)) (.int .i64 ((y+1:Nat):Int)))
      clear hgt hlc hbc HB4 HU4
      go_wp2
      go_roundg (200000-(i+1))
      · exact ⟨i+1,by omega,by first | rfl | omega,by first | rfl | go_num,HB5,HU5⟩
      · omega
    · have h18z : ¬ (sy:Int)≤18:=by omega
      have HB5:Hid (Blk w4 g (zg (zE (l.take (i+1)))) 212):=Lib.hid (by
       rw [HST.out,YB,if_neg h18]
       exact HB4.out)
      clear hlc hbc HB4
      go_wp2
      go_roundg (200000-(i+1))
      · exact ⟨i+1,by omega,by first | rfl | omega,by first | rfl | go_num,HB5,HU4⟩
      · omega
  · have hcz : ¬ (i:Int)<(n:Int):=by omega
    obtain rfl:i=n:=by omega
    have hl19:=(HCO.out i (by rw [HLN.out]; exact Nat.le_refl _)).1
    have htk:l.take i=l:=List.take_of_length_le (by rw [HLN.out]; exact Nat.le_refl _)
    rw [htk] at HB hl19
    clear htk
    have hB:=HB.out
    have HL19:Hid ((zg (zE l)).length=19):=Lib.hid (by rw [zn,hl19])
    clear HB hl19
    go_wp2_with (first
     | (refine zr rfl 212 _ rfl g rfl 212 _ hB _ Tryz.underlying212 rfl (by rw [HL19.out]; kernel_rfl) ?_)
     | (refine zs rfl 212 _ _ rfl g rfl _ rfl 212 _ hB (by rw [HL19.out]; kernel_rfl) rfl (xa _) ?_; intro w2 hB3 hU2))
    exact bodyPost_ret (results_cell_row rfl _ _ _ _ _ _ _ rfl hB3 Tryz.underlying212 rfl (by rw [zir]; simp [HL19.out])) rfl ⟨rfl,HU.out.trans hU2 (fun k hk=>by simp at hk; right; have:=HG.out; omega)⟩
end Go.Proofs.YtfkcdnaghndgfaaGreatDoor
namespace Go.Proofs.YtfkcdnaghndgfaaGreatDoor
theorem JJ {P:Program} {md:Region.Mode} {ops:Array Oper} {Q:Exit→Act→World→Prop} {S S':World→Prop} (h : ∀ w,S' w→S w) :
 ∀ (fuel:Nat) (listed:Array Bool) (a:Act) (w:World),wpAnyH P md ops Q S' fuel listed a w→wpAnyH P md ops Q S fuel listed a w
 | 0,_,_,_,k=>k
 | fuel+1,_,_,_,k=>⟨k.1,fun i hi=>wpOp_mono (fun a' w' h'=>⟨h _ h'.1,JJ h fuel _ a' w' h'.2⟩) (k.2 i hi)⟩
theorem Upd.keep {W w:World} {p:Addr} {v:Value} (h:Upd [] W w) (hc:W.cell? p=some v):w.cell? p=some v:=(h.cell (World.block_lt_of_cell? W p hc) (by simp)).trans hc
theorem Upd.keepN {fp:List Nat} {W w:World} {p:Addr} {v:Value} (h:Upd fp W w) (hc:W.cell? p=some v) (hn:p.block∉fp):w.cell? p=some v:=(h.cell (World.block_lt_of_cell? W p hc) hn).trans hc
def CF (w:World):List (Addr×Value)→Prop
 | []=>True
 | x::r=>w.cell? x.1=some x.2∧CF w r
theorem CF.upd {w w':World} {g:List Nat} (hU:Upd g w w') : ∀ {fs:List (Addr×Value)},CF w fs→(∀ x∈fs,x.1.block∉g)→CF w' fs
 | [],_,_=>trivial
 | x::r,h,hn=>⟨hU.keepN h.1 (hn x List.mem_cons_self),CF.upd hU h.2 (fun y hy=>hn y (List.mem_cons_of_mem _ hy))⟩
theorem CF.set {w:World} {p:Addr} (u:Value) : ∀ {fs:List (Addr×Value)},CF w fs→(∀ x∈fs,x.1≠p)→CF (w.setCell p u) fs
 | [],_,_=>trivial
 | x::r,h,hn=>⟨(World.cell?_setCell_other w p x.1 u (fun e=>hn x List.mem_cons_self e.symm)).trans h.1,CF.set u h.2 (fun y hy=>hn y (List.mem_cons_of_mem _ hy))⟩
structure HC (fp:List Nat) (W:World) (fs:List (Addr×Value)) (w:World):Prop where
 upd:Upd fp W w
 cells:CF w fs
theorem HC.of {fp:List Nat} {W:World} {fs:List (Addr×Value)} (h:CF W fs):HC fp W fs W:=⟨Upd.refl fp W,h⟩
theorem HC.drew {fp:List Nat} {W w:World} {fs:List (Addr×Value)} (h:HC fp W fs w):HC fp W fs w.drew:=⟨h.upd.drew,CF.upd ((Upd.refl [] w).drew) h.cells (by simp)⟩
theorem HC.alloc {fp:List Nat} {W w:World} {fs:List (Addr×Value)} (h:HC fp W fs w) (o:Obj):HC fp W fs (w.alloc o):=⟨h.upd.alloc o,CF.upd ((Upd.refl [] w).alloc o) h.cells (by simp)⟩
theorem HC.then {fp:List Nat} {W w w':World} {fs:List (Addr×Value)} (h:HC fp W fs w) (hU:Upd [] w w'):HC fp W fs w':=⟨h.upd.trans hU (by simp),CF.upd hU h.cells (by simp)⟩
theorem HC.thenF {fp g:List Nat} {W w w':World} {fs:List (Addr×Value)} (h:HC fp W fs w) (hU:Upd g w w') (hg : ∀ k,k∈g→k∈fp∨W.heap.size≤k) (hn : ∀ x∈fs,x.1.block∉g):HC fp W fs w':=⟨h.upd.trans hU hg,CF.upd hU h.cells hn⟩
theorem HC.set {fp:List Nat} {W w:World} {fs:List (Addr×Value)} (h:HC fp W fs w) (p:Addr) (u:Value) (hp:p.block∈fp∨W.heap.size≤p.block) (hn : ∀ x∈fs,x.1≠p):HC fp W fs (w.setCell p u):=⟨h.upd.setCell hp u,CF.set u h.cells hn⟩
theorem CF.sub {w:World} : ∀ {fs fs':List (Addr×Value)},CF w fs'→(∀ x∈fs,x∈fs')→CF w fs
 | [],_,_,_=>trivial
 | x::r,fs',h,hs=>by
   refine ⟨?_,CF.sub h (fun y hy=>hs y (List.mem_cons_of_mem _ hy))⟩
   have : ∀ {fs:List (Addr×Value)},CF w fs → ∀ y∈fs,w.cell? y.1=some y.2:=by
    intro fs
    induction fs with
    | nil=>intro _ y hy; cases hy
    | cons z r ih =>
      intro h y hy
      rcases List.mem_cons.1 hy with rfl | hy
      · exact h.1
      · exact ih h.2 y hy
   exact this h x (hs x List.mem_cons_self)
theorem HC.more {fp:List Nat} {W z w:World} {fs fs':List (Addr×Value)} (h:HC fp W fs z) (hs : ∀ x∈fs,x∈fs') (k:HC fp z fs' w):HC fp W fs w:=⟨h.upd.trans k.upd (fun _ h => .inl h),k.cells.sub hs⟩
end Go.Proofs.YtfkcdnaghndgfaaGreatDoor
namespace Go.Proofs.YtfkcdnaghndgfaaGreatDoor
open Go.RowKit
def yv:List Nat:=[16,17,18,0,8,7,9,6,10,5,11,4,12,3,13,2,14,1,15]
theorem YW (w:World):Calls Tryz.prog 162 #[] w fun e w' => ∃ g,e = .returned (.slice (some ⟨g,0,none⟩) 19 19)∧Blk w' g (zg yv) 3∧Upd [] w w':=by
 go_enter Tryz.func162,Tryz.ntmps162
 go_wp2
 go_ret
 exact ⟨_,rfl,Blk.new w (zg yv) _,(Upd.refl [] w).alloc _⟩
theorem Kk : ∀ i:Fin 19,yv.getD i.val 0<19∧yv[i.val]? =some (yv.getD i.val 0):=by decide +kernel
structure ToldO (l:List Nat) (t:Nat):Prop where
 lo:4≤t
 hi:t≤19
 zero : ∀ i,t≤i→i<19→l.getD (yv.getD i 0) 0=0
 last:t=4∨l.getD (yv.getD (t-1) 0) 0≠0
theorem ToldO.uniq {l:List Nat} {s t:Nat} (h:ToldO l s) (k:ToldO l t):s=t:=by
 rcases Nat.lt_trichotomy s t with h1 | h1 | h1
 · rcases k.last with h2 | h2
   · have:=h.lo; omega
   · exact absurd (h.zero (t-1) (by omega) (by have:=k.hi; omega)) h2
 · exact h1
 · rcases h.last with h2 | h2
   · have:=k.lo; omega
   · exact absurd (k.zero (s-1) (by omega) (by have:=h.hi; omega)) h2
def zi4 (l:List Nat) (w:World) (e:Ending) (w':World):Prop := ∃ t:Nat,e = .returned (.int .i64 (t:Nat))∧ToldO l t∧Upd [] w w'
theorem IntsIn.natAt {w:World} {a:Option Addr} {n:Nat} {l:List Nat} (h:IntsIn w a n (ints l)) (j:Nat) (hj:j<l.length) : ∃ b off,a=some ⟨b,off,none⟩∧w.cell? ⟨b,off+j,none⟩=some (.int .i64 (l.getD j 0:Nat)):=by
 obtain ⟨b,off,e,c,_⟩:=h.cell j (by simpa [ints] using hj)
 refine ⟨b,off,e,?_⟩
 rw [c]
 simp [ints,List.getD_eq_getElem?_getD,hj]
set_option maxRecDepth 100000 in
set_option maxHeartbeats 6400000 in
theorem zaQ (l:List Nat) (a1 a2 a3 a4:Option Addr) (n1 n2 n3 c1 c2 c3 c4:Nat) (w:World) (hI:IntsIn w a4 19 (ints l)) :
 Calls Tryz.prog 161 #[.agg #[.slice a1 n1 c1,.slice a2 n2 c2,.slice a3 n3 c3,.slice a4 19 c4]] w fun e w'=>zi4 l w e w':=by
 have hB:=Blk.new w [.slice a1 n1 c1,.slice a2 n2 c2,.slice a3 n3 c3,.slice a4 19 c4] 177
 have HU1:=Lib.hid ((Upd.refl [] w).alloc (.cells #[.slice a1 n1 c1,.slice a2 n2 c2,.slice a3 n3 c3,.slice a4 19 c4] 177))
 have HI1:=Lib.hid (hI.pure HU1.out)
 have HLN:=Lib.hid hI.len
 have HB:=Lib.hid hB
 clear hI hB
 go_enter Tryz.func161,Tryz.ntmps161
 go_upto_region 1 with fail
 change Code.wp _ _ _ _ (w.alloc (.cells #[.slice a1 n1 c1,.slice a2 n2 c2,.slice a3 n3 c3,.slice a4 19 c4] 177))
 generalize w.alloc (.cells #[.slice a1 n1 c1,.slice a2 n2 c2,.slice a3 n3 c3,.slice a4 19 c4] 177)=w1 at *
 generalize w.heap.size=bx at *
 have c3':=HB.out.cell 3 rfl
 have HC3:=Lib.hid c3'
 go_wp2
 clear c3'
 go_loopg [3] 200 (fun gg s3 wr => ∃ m:Nat,4≤m∧m≤19∧gg=200-(19-m)∧s3 = .int .i64 (m:Nat)∧Hid (∀ i,m≤i→i<19→l.getD (yv.getD i 0) 0=0)∧Hid (Upd [] w1 wr))
 case atStart=>exact ⟨19,by omega,by omega,by omega,rfl,Lib.hid (fun i h1 h2=>by omega),Lib.hid (Upd.refl _ _)⟩
 case round =>
  obtain ⟨m,hm4,hm19,rfl,rfl,HZ,HU⟩:=hrel
  have q3:=HU.out.keep HC3.out
  by_cases hc:4<m
  · have hcz:(4:Int)<(m:Int):=by omega
    obtain ⟨k,hk⟩ : ∃ k,m=k+1:=⟨m-1,by omega⟩
    obtain ⟨hj,hjo⟩:=Kk ⟨k,by omega⟩
    dsimp only at hj hjo
    have hjl:yv.getD k 0<l.length:=by have:=HLN.out; simp [ints] at this; omega
    obtain ⟨b,off,rfl,hcx⟩:=(HI1.out.pure HU.out).natAt _ hjl
    have HX:Hid (l.getD (yv.getD k 0) 0=l.getD (yv.getD k 0) 0):=Lib.hid rfl
    have HK:=Lib.hid (zL yv k _ hjo)
    have HKM:=Lib.hid hk
    have hkm:k<m:=by omega
    have hmk:m≤k+1:=by omega
    have hwk:IntKind.i64.wrap ((m:Int)-1)=(k:Int):=by rw [IntWalk.i64_in _ (by omega)]; omega
    have hkz:(k:Int)<19:=by omega
    obtain ⟨x,hx⟩ : ∃ x,l.getD (yv.getD k 0) 0=x:=⟨_,rfl⟩
    rw [hx] at hcx
    obtain ⟨j,hjj⟩ : ∃ j,yv.getD k 0=j:=⟨_,rfl⟩
    rw [hjj] at hcx HK hj
    have hjz:(j:Int)<19:=by omega
    have HXE:=Lib.hid hx
    clear hk hjl hx hjj hjo hj
    have hkp:=hmk
    by_cases h0:x=0
    · have HX0:Hid (l.getD (yv.getD k 0) 0=0):=Lib.hid (by rw [HXE.out]; exact h0)
      have hxz:(x:Int)=0:=by omega
      have hxb:((x:Int)==0)=true:=by simpa using hxz
      go_wp2
      refine wp_region_held_drew (S:=fun w'=>HC [] wr [(⟨bx,3,none⟩,.slice (some ⟨b,off,none⟩) 19 c4)] w') (by kernel_rfl) (HC.of (fp:=[]) (W:=wr) (fs:=[(⟨bx,3,none⟩,.slice (some ⟨b,off,none⟩) 19 c4)]) ⟨q3,trivial⟩).drew (fun hHeld=>hdN ?_)
      refine hdT 0 (some 7) ?_; refine hdT 1 (some 8) ?_ (hy:=by intro w hSw; clear hSw; go_simp; try with_reducible rfl) (v := .bool true)
      refine hdT 2 (some 9) ?_; refine hdT 3 (some 10) ?_
      refine hdT 4 (some 11) ?_ (hy:=by intro w hSw; have q0:=hSw.cells.1; dsimp only at q0; clear hSw; go_simp; try with_reducible rfl)
      refine hdT 6 (some 13) ?_; refine hdT 7 (some 14) ?_ (hy:=by intro w hSw; clear hSw; go_simp; try with_reducible rfl) (v := .int .i64 (k:Nat))
      refine hdO 5 (fun K hK=>?_)
      go_simp
      refine (YW _).mono ?_
      rintro e z ⟨g,rfl,hB,hU⟩
      go_wp2
      refine hK.out _ _ (HC.then hHeld hU) (fun hHeld=>hdN ?_)
      clear hK K
      have co:=hB.cell k HK.out
      have cl:=hHeld.upd.keep hcx
      have k3:=hHeld.cells.1
      dsimp only at k3
      refine JJ (S':=fun w'=>HC [] z [(⟨bx,3,none⟩,.slice (some ⟨b,off,none⟩) 19 c4),(⟨g,k,none⟩,.int .i64 (j:Nat)),(⟨b,off+j,none⟩,.int .i64 (x:Nat))] w') (fun w' h=>hHeld.more (by simp) h) _ _ _ _ ?_
      have HHz:=Lib.hid hHeld
      clear hHeld
      have hHeld:HC [] z [(⟨bx,3,none⟩,.slice (some ⟨b,off,none⟩) 19 c4),(⟨g,k,none⟩,.int .i64 (j:Nat)),(⟨b,off+j,none⟩,.int .i64 (x:Nat))] z:=HC.of ⟨k3,co,cl,trivial⟩
      refine hdT 8 (some 15) ?_
      refine hdT 9 (some 16) ?_ (hy:=by intro w hSw; have q0:=hSw.cells.2.1; dsimp only at q0; clear hSw; go_simp; try with_reducible rfl)
      refine hdT 10 (some 17) ?_
      refine hdT 11 (some 18) ?_ (hy:=by intro w hSw; have q0:=hSw.cells.2.2.1; dsimp only at q0; clear hSw; go_simp; try with_reducible rfl)
      refine hdT 12 (some 19) ?_ (hy:=by intro w hSw; clear hSw; go_simp; try with_reducible rfl) (v := .bool true); refine hdT 13 (some 20) ?_
      refine wpAnyH_done (by kernel_rfl) ?_ 0
      have HUz:=Lib.hid (HU.out.then (HHz.out.upd.then hHeld.upd))
      clear hHeld
      go_wp2
      go_roundg (200-(19-k))
      · exact ⟨k,by omega,by omega,by omega,by first | rfl | go_num,Lib.hid (fun i h1 h2=>by
         rcases Nat.eq_or_lt_of_le h1 with rfl | h3
         · exact HX0.out
         · exact HZ.out i (by omega) h2),Lib.hid HUz.out⟩
      · omega
    · have HX0:Hid (l.getD (yv.getD (m-1) 0) 0≠0):=Lib.hid (by rw [show m-1=k by omega,HXE.out]; exact h0)
      have hxz : ¬ (x:Int)=0:=by omega
      have hxb:((x:Int)==0)=false:=by simpa using hxz
      go_wp2
      refine wp_region_held_drew (S:=fun w'=>HC [] wr [(⟨bx,3,none⟩,.slice (some ⟨b,off,none⟩) 19 c4)] w') (by kernel_rfl) (HC.of (fp:=[]) (W:=wr) (fs:=[(⟨bx,3,none⟩,.slice (some ⟨b,off,none⟩) 19 c4)]) ⟨q3,trivial⟩).drew (fun hHeld=>hdN ?_)
      refine hdT 0 (some 7) ?_; refine hdT 1 (some 8) ?_ (hy:=by intro w hSw; clear hSw; go_simp; try with_reducible rfl) (v := .bool true)
      refine hdT 2 (some 9) ?_; refine hdT 3 (some 10) ?_
      refine hdT 4 (some 11) ?_ (hy:=by intro w hSw; have q0:=hSw.cells.1; dsimp only at q0; clear hSw; go_simp; try with_reducible rfl)
      refine hdT 6 (some 13) ?_; refine hdT 7 (some 14) ?_ (hy:=by intro w hSw; clear hSw; go_simp; try with_reducible rfl) (v := .int .i64 (k:Nat))
      refine hdO 5 (fun K hK=>?_)
      go_simp
      refine (YW _).mono ?_
      rintro e z ⟨g,rfl,hB,hU⟩
      go_wp2
      refine hK.out _ _ (HC.then hHeld hU) (fun hHeld=>hdN ?_)
      clear hK K
      have co:=hB.cell k HK.out
      have cl:=hHeld.upd.keep hcx
      have k3:=hHeld.cells.1
      dsimp only at k3
      refine JJ (S':=fun w'=>HC [] z [(⟨bx,3,none⟩,.slice (some ⟨b,off,none⟩) 19 c4),(⟨g,k,none⟩,.int .i64 (j:Nat)),(⟨b,off+j,none⟩,.int .i64 (x:Nat))] w') (fun w' h=>hHeld.more (by simp) h) _ _ _ _ ?_
      have HHz:=Lib.hid hHeld
      clear hHeld
      have hHeld:HC [] z [(⟨bx,3,none⟩,.slice (some ⟨b,off,none⟩) 19 c4),(⟨g,k,none⟩,.int .i64 (j:Nat)),(⟨b,off+j,none⟩,.int .i64 (x:Nat))] z:=HC.of ⟨k3,co,cl,trivial⟩
      refine hdT 8 (some 15) ?_
      refine hdT 9 (some 16) ?_ (hy:=by intro w hSw; have q0:=hSw.cells.2.1; dsimp only at q0; clear hSw; go_simp; try with_reducible rfl)
      refine hdT 10 (some 17) ?_
      refine hdT 11 (some 18) ?_ (hy:=by intro w hSw; have q0:=hSw.cells.2.2.1; dsimp only at q0; clear hSw; go_simp; try with_reducible rfl)
      refine hdT 12 (some 19) ?_ (hy:=by intro w hSw; clear hSw; go_simp; try with_reducible rfl) (v := .bool false); refine hdT 13 (some 20) ?_
      refine wpAnyH_done (by kernel_rfl) ?_ 0
      have HUz:=Lib.hid (HU.out.then (HHz.out.upd.then hHeld.upd))
      clear hHeld
      go_wp2
      go_ret
      exact ⟨_,rfl,⟨by omega,by omega,HZ.out,.inr HX0.out⟩,HU1.out.then HUz.out⟩
  · have hcz : ¬ (4:Int)<(m:Int):=by omega
    go_wp2
    refine wp_region_held_drew (S:=fun w'=>HC [] wr [] w') (by kernel_rfl) (HC.of (fp:=[]) (W:=wr) (fs:=[]) trivial).drew (fun hHeld=>hdN ?_)
    refine hdT 0 (some 7) ?_; refine hdT 1 (some 8) ?_ (hy:=by intro w hSw; clear hSw; go_simp; try with_reducible rfl) (v := .bool false)
    refine hdT 2 (some 9) ?_; refine hdK 3 (some 10) ?_; refine hdK 4 (some 11) ?_; refine hdK 5 (some 12) ?_; refine hdK 6 (some 13) ?_
    refine hdK 7 (some 14) ?_; refine hdK 8 (some 15) ?_; refine hdK 9 (some 16) ?_; refine hdK 10 (some 17) ?_; refine hdK 11 (some 18) ?_
    refine hdK 12 (some 19) ?_; refine hdT 13 (some 20) ?_
    refine wpAnyH_done (by kernel_rfl) ?_ 0
    go_wp2
    go_ret
    exact ⟨_,rfl,⟨by omega,by omega,HZ.out,.inl (by omega)⟩,(HU1.out.then HU.out).drew⟩
def szT (lens:List Nat) (l:List StpD):Nat:=(l.map fun s=>lens.getD s.sym 0+s.bits).sum
theorem zff (lens:List Nat) (l:List StpD) (s:StpD):szT lens (l++[s])=szT lens l+(lens.getD s.sym 0+s.bits):=by unfold szT; simp
theorem zbk (lens:List Nat) (hl : ∀ j,lens.getD j 0≤15) : ∀ (l:List StpD),(∀ s∈l,s.bits≤7)→szT lens l≤22*l.length
 | [],_=>by simp [szT]
 | s::l,h=>by
   have ih:=zbk lens hl l (fun x hx=>h x (List.mem_cons_of_mem _ hx))
   have h1:=hl s.sym
   have h2:=h s List.mem_cons_self
   unfold szT at *
   rw [List.map_cons,List.sum_cons,List.length_cons]
   omega
def ziS (lens:List Nat) (l:List StpD) (w:World) (e:Ending) (w':World):Prop := ∃ t:Nat,e = .returned (.int .i64 ((14+3*t+szT lens l:Nat):Int))∧ToldO lens t∧Upd [] w w'
set_option maxRecDepth 100000 in
set_option maxHeartbeats 6400000 in
theorem zfF (lens:List Nat) (l:List StpD) (a1 a2 a3 a4:Option Addr) (n1 n2 n3 c1 c2 c3 c4:Nat) (w:World) (hI:IntsIn w a4 19 (ints lens)) (hS:StpIn w a3 n3 l) (hn:n3≤100000) (hl : ∀ j,lens.getD j 0≤15) (hs : ∀ s∈l,s.sym<19∧s.bits≤7) :
 Calls Tryz.prog 130 #[.agg #[.slice a1 n1 c1,.slice a2 n2 c2,.slice a3 n3 c3,.slice a4 19 c4]] w fun e w'=>ziS lens l w e w':=by
 have hB:=Blk.new w [.slice a1 n1 c1,.slice a2 n2 c2,.slice a3 n3 c3,.slice a4 19 c4] 177
 have HU1:=Lib.hid ((Upd.refl [] w).alloc (.cells #[.slice a1 n1 c1,.slice a2 n2 c2,.slice a3 n3 c3,.slice a4 19 c4] 177))
 have HI1:=Lib.hid (hI.pure HU1.out)
 have HS1:=Lib.hid (hS.pure HU1.out)
 have HLN:=Lib.hid hI.len
 have HLS:=Lib.hid hS.len
 have HSY:=Lib.hid hs
 have HL15:=Lib.hid hl
 have HZB:=Lib.hid (fun i=>zbk lens hl (l.take i) (fun s h=>(hs s (List.mem_of_mem_take h)).2))
 have HB:=Lib.hid hB
 have HBC:=Lib.hid (hB.cell 0 rfl)
 clear hI hB hS hl hs
 go_enter Tryz.func130,Tryz.ntmps130
 go_upto_region 1 with fail
 change Code.wp _ _ _ _ (w.alloc (.cells #[.slice a1 n1 c1,.slice a2 n2 c2,.slice a3 n3 c3,.slice a4 19 c4] 177))
 generalize w.alloc (.cells #[.slice a1 n1 c1,.slice a2 n2 c2,.slice a3 n3 c3,.slice a4 19 c4] 177)=w1 at *
 generalize w.heap.size=bx at *
 have q0:=HB.out.cell 0 rfl
 have q1:=HB.out.cell 1 rfl
 have q2:=HB.out.cell 2 rfl
 have q3:=HB.out.cell 3 rfl
 have HC2:=Lib.hid q2
 have HC3:=Lib.hid q3
 have HTO:=Lib.hid (zaQ lens a1 a2 a3 a4 n1 n2 n3 c1 c2 c3 c4 w1 HI1.out)
 go_wp2_with fail
 refine HTO.out.mono ?_
 rintro e w2 ⟨t,rfl,ht,hU2⟩
 have ht4:=ht.lo
 have ht19:=ht.hi
 have HT:=Lib.hid ht
 have HU2:=Lib.hid hU2
 have q2':=hU2.keep HC2.out
 have hw3:IntKind.i64.wrap (3*(t:Int))=3*(t:Int):=IntWalk.i64_in _ (by omega)
 have hw14:IntKind.i64.wrap (14+3*(t:Int))=14+3*(t:Int):=IntWalk.i64_in _ (by omega)
 clear q0 q1 q2 q3 ht hU2 HTO HBC
 go_wp2
 clear hw3 hw14 q2'
 go_loopg [3,13] 200000 (fun gg s3 s13 wr => ∃ i:Nat,i≤n3∧gg=200000-i∧s13 = .int .i64 (i:Nat)∧s3 = .int .i64 ((14+3*t+szT lens (l.take i):Nat):Int)∧Hid (Upd [] w2 wr))
 case atStart=>exact ⟨0,by omega,by omega,rfl,by first | rfl | (rw [List.take_zero,show szT lens []=0 from rfl]; first | rfl | go_num),Lib.hid (Upd.refl _ _)⟩
 case round =>
  obtain ⟨i,hin,rfl,rfl,rfl,HU⟩:=hrel
  have hzb:szT lens (l.take i)≤22*i:=Nat.le_trans (HZB.out i) (Nat.mul_le_mul_left _ (List.length_take_le _ _))
  by_cases hc:i<n3
  · have hcz:(i:Int)<(n3:Int):=by omega
    have hil:i<l.length:=by rw [HLS.out]; exact hc
    have hw1:IntKind.i64.wrap ((i:Int)+1)=((i+1:Nat):Int):=by rw [IntWalk.i64_in _ (by omega)]; rfl
    obtain ⟨b,off,rfl,hc1,hc2,hc3⟩:=(HS1.out.pure (HU2.out.then HU.out)).cell i hil
    have HST:Hid (szT lens (l.take (i+1))=szT lens (l.take i)+(lens.getD l[i].sym 0+l[i].bits)):=Lib.hid (by rw [List.take_succ_eq_append_getElem hil,zff])
    obtain ⟨hy19,hb7⟩:=HSY.out l[i] (List.getElem_mem hil)
    generalize l[i]=s at *
    obtain ⟨sy,sb,sm⟩:=s
    dsimp only at hc1 hc2 hc3 hy19 hb7 HST
    have hjl:sy<lens.length:=by have:=HLN.out; simp [ints] at this; omega
    obtain ⟨b4,off4,rfl,hcx⟩:=((HI1.out.pure HU2.out).pure HU.out).natAt sy hjl
    have hx15:=HL15.out sy
    generalize lens.getD sy 0=x at *
    have hT4:=Blk.new wr [.int .i64 (sy:Nat),.int .i64 (sb:Nat),.int .i64 (sm:Nat)] 217
    have hU4:=(Upd.refl [] wr).alloc (.cells #[.int .i64 (sy:Nat),.int .i64 (sb:Nat),.int .i64 (sm:Nat)] 217)
    have hcy:=hU4.keep hcx
    have k3:=hU4.keep (HU.out.keep (HU2.out.keep HC3.out))
    have HU4:=Lib.hid (HU.out.then hU4)
    generalize szT lens (l.take i)=S at *
    clear hil hjl hU4
    obtain ⟨R,hR⟩ : ∃ R,14+3*t+S=R:=⟨_,rfl⟩
    obtain ⟨X,hX⟩ : ∃ X,x+sb=X:=⟨_,rfl⟩
    obtain ⟨Y,hY⟩ : ∃ Y,14+3*t+(S+X)=Y:=⟨_,rfl⟩
    have hwa:IntKind.i64.wrap ((x:Int)+(sb:Int))=(X:Int):=by rw [IntWalk.i64_in _ (by omega)]; omega
    have hwb:IntKind.i64.wrap ((R:Int)+(X:Int))=(Y:Int):=by rw [IntWalk.i64_in _ (by omega)]; omega
    rw [hR]
    have HY:Hid (14+3*t+szT lens (l.take (i+1))=Y):=Lib.hid (by rw [HST.out,hX,hY])
    have hsyz:(sy:Int)<19:=by omega
    clear hY hR hX hzb hx15 hb7
    go_upto_region 5 with fail
    change Code.wp _ _ _ _ (wr.alloc (.cells #[.int .i64 (sy:Nat),.int .i64 (sb:Nat),.int .i64 (sm:Nat)] 217))
    generalize wr.alloc (.cells #[.int .i64 (sy:Nat),.int .i64 (sb:Nat),.int .i64 (sm:Nat)] 217)=w4 at *
    generalize wr.heap.size=q at *
    have t0:=hT4.cell 0 rfl
    have t1:=hT4.cell 1 rfl
    clear hT4 hc1 hc2 hc3 hcx
    go_quiet (fail)
    go_wp2
    go_roundg (200000-(i+1))
    · exact ⟨i+1,by omega,by omega,by first | rfl | go_num,by rw [HY.out],Lib.hid (HU4.out.drewN _)⟩
    · omega
  · have hcz : ¬ (i:Int)<(n3:Int):=by omega
    obtain rfl:i=n3:=by omega
    have htk:l.take i=l:=List.take_of_length_le (by rw [HLS.out]; exact Nat.le_refl _)
    rw [htk] at hzb ⊢
    go_wp2
    go_ret
    exact ⟨t,rfl,HT.out,HU1.out.then (HU2.out.then HU.out)⟩
end Go.Proofs.YtfkcdnaghndgfaaGreatDoor
