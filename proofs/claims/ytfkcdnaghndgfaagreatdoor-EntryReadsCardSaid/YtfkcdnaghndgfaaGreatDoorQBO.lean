/- A region that draws its order, walked by hand: what is held is told as cells that are known, and may be made to say more behind a call. -/
import Derived.Test.YtfkcdnaghndgfaaGreatDoorQAQ
import Derived.Test.YtfkcdnaghndgfaaGreatDoorQAA
import Derived.Deep.RegionHeld3
import Derived.Test.YtfkcdnaghndgfaaGreatDoorQBN
import Derived.Test.YtfkcdnaghndgfaaGreatDoorQAR
import Derived.Lib.SliceRun
import Derived.ArgAppend
import Derived.Test.YtfkcdnaghndgfaaGreatDoorQAC
import Derived.Test.YtfkcdnaghndgfaaGreatDoorQBL
import Derived.Test.YtfkcdnaghndgfaaGreatDoorQBK
import Derived.Test.YtfkcdnaghndgfaaGreatDoorQAB
set_option linter.unusedVariables false
set_option linter.unusedSimpArgs false
set_option linter.unusedSectionVars false
namespace Go.Proofs.YtfkcdnaghndgfaaGreatDoor
theorem JK {P:Program} {md:Region.Mode} {ops:Array Oper} {Q:Exit→Act→World→Prop} {S S':World→Prop} (h : ∀ w,S' w→S w) :
 ∀ (fuel:Nat) (listed:Array Bool) (a:Act) (w:World),wpAnyH P md ops Q S' fuel listed a w→wpAnyH P md ops Q S fuel listed a w
 | 0,_,_,_,k=>k
 | fuel+1,_,_,_,k=>⟨k.1,fun i hi=>wpOp_mono (fun a' w' h'=>⟨h _ h'.1,JK h fuel _ a' w' h'.2⟩) (k.2 i hi)⟩
theorem Upd.keep {W w:World} {p:Addr} {v:Value} (h:Upd [] W w) (hc:W.cell? p=some v):w.cell? p=some v:=(h.cell (World.block_lt_of_cell? W p hc) (by simp)).trans hc
theorem Upd.keepN {fp:List Nat} {W w:World} {p:Addr} {v:Value} (h:Upd fp W w) (hc:W.cell? p=some v) (hn:p.block∉fp):w.cell? p=some v:=(h.cell (World.block_lt_of_cell? W p hc) hn).trans hc
def CF (w:World):List (Addr×Value)→Prop
 | []=>True
 | x::r=>w.cell? x.1=some x.2∧CF w r
theorem CF.upd {w w':World} {g:List Nat} (hU:Upd g w w') : ∀ {fs:List (Addr×Value)},CF w fs→(∀ x∈fs,x.1.block∉g)→CF w' fs
 | [],_,_=>trivial
 | x::r,h,hn=>⟨hU.keepN h.1 (hn x List.mem_cons_self),CF.upd hU h.2 (fun y hy=>hn y (List.mem_cons_of_mem _ hy))⟩
theorem CF.set {w:World} {p:Addr} (u:Value) : ∀ {fs:List (Addr×Value)},CF w fs→(∀ x∈fs,x.1≠p)→CF (w.setCell p u) fs
 | [],_,_=>trivial
 | x::r,h,hn=>⟨(World.cell?_setCell_other w p x.1 u (fun e=>hn x List.mem_cons_self e.symm)).trans h.1,CF.set u h.2 (fun y hy=>hn y (List.mem_cons_of_mem _ hy))⟩
structure HC (fp:List Nat) (W:World) (fs:List (Addr×Value)) (w:World):Prop where
 upd:Upd fp W w
 cells:CF w fs
theorem HC.of {fp:List Nat} {W:World} {fs:List (Addr×Value)} (h:CF W fs):HC fp W fs W:=⟨Upd.refl fp W,h⟩
theorem HC.drew {fp:List Nat} {W w:World} {fs:List (Addr×Value)} (h:HC fp W fs w):HC fp W fs w.drew:=⟨h.upd.drew,CF.upd ((Upd.refl [] w).drew) h.cells (by simp)⟩
theorem HC.alloc {fp:List Nat} {W w:World} {fs:List (Addr×Value)} (h:HC fp W fs w) (o:Obj):HC fp W fs (w.alloc o):=⟨h.upd.alloc o,CF.upd ((Upd.refl [] w).alloc o) h.cells (by simp)⟩
theorem HC.then {fp:List Nat} {W w w':World} {fs:List (Addr×Value)} (h:HC fp W fs w) (hU:Upd [] w w'):HC fp W fs w':=⟨h.upd.trans hU (by simp),CF.upd hU h.cells (by simp)⟩
theorem HC.thenF {fp g:List Nat} {W w w':World} {fs:List (Addr×Value)} (h:HC fp W fs w) (hU:Upd g w w') (hg : ∀ k,k∈g→k∈fp∨W.heap.size≤k) (hn : ∀ x∈fs,x.1.block∉g):HC fp W fs w':=⟨h.upd.trans hU hg,CF.upd hU h.cells hn⟩
theorem HC.set {fp:List Nat} {W w:World} {fs:List (Addr×Value)} (h:HC fp W fs w) (p:Addr) (u:Value) (hp:p.block∈fp∨W.heap.size≤p.block) (hn : ∀ x∈fs,x.1≠p):HC fp W fs (w.setCell p u):=⟨h.upd.setCell hp u,CF.set u h.cells hn⟩
theorem CF.sub {w:World} : ∀ {fs fs':List (Addr×Value)},CF w fs'→(∀ x∈fs,x∈fs')→CF w fs
 | [],_,_,_=>trivial
 | x::r,fs',h,hs=>by
   refine ⟨?_,CF.sub h (fun y hy=>hs y (List.mem_cons_of_mem _ hy))⟩
   have : ∀ {fs:List (Addr×Value)},CF w fs → ∀ y∈fs,w.cell? y.1=some y.2:=by
    intro fs
    induction fs with
    | nil=>intro _ y hy; cases hy
    | cons z r ih =>
      intro h y hy
      rcases List.mem_cons.1 hy with rfl | hy
      · exact h.1
      · exact ih h.2 y hy
   exact this h x (hs x List.mem_cons_self)
theorem HC.more {fp:List Nat} {W z w:World} {fs fs':List (Addr×Value)} (h:HC fp W fs z) (hs : ∀ x∈fs,x∈fs') (k:HC fp z fs' w):HC fp W fs w:=⟨h.upd.trans k.upd (fun _ h => .inl h),k.cells.sub hs⟩
end Go.Proofs.YtfkcdnaghndgfaaGreatDoor
namespace Go.Proofs.YtfkcdnaghndgfaaGreatDoor
open Go.RowKit
def qD:List Nat:=[16,17,18,0,8,7,9,6,10,5,11,4,12,3,13,2,14,1,15]
theorem VW (w:World):Calls Tryz.prog 162 #[] w fun e w' => ∃ g,e = .returned (.slice (some ⟨g,0,none⟩) 19 19)∧Blk w' g (zf qD) 3∧Upd [] w w':=by
 go_enter Tryz.func162,Tryz.ntmps162
 go_wp2
 go_ret
 exact ⟨_,rfl,Blk.new w (zf qD) _,(Upd.refl [] w).alloc _⟩
theorem zc6 : ∀ i:Fin 19,qD.getD i.val 0<19∧qD[i.val]? =some (qD.getD i.val 0):=by decide +kernel
structure ToldO (l:List Nat) (t:Nat):Prop where
 lo:4≤t
 hi:t≤19
 zero : ∀ i,t≤i→i<19→l.getD (qD.getD i 0) 0=0
 last:t=4∨l.getD (qD.getD (t-1) 0) 0≠0
theorem ToldO.uniq {l:List Nat} {s t:Nat} (h:ToldO l s) (k:ToldO l t):s=t:=by
 rcases Nat.lt_trichotomy s t with h1 | h1 | h1
 · rcases k.last with h2 | h2
   · have:=h.lo; omega
   · exact absurd (h.zero (t-1) (by omega) (by have:=k.hi; omega)) h2
 · exact h1
 · rcases h.last with h2 | h2
   · have:=k.lo; omega
   · exact absurd (k.zero (s-1) (by omega) (by have:=h.hi; omega)) h2
def zi7 (l:List Nat) (w:World) (e:Ending) (w':World):Prop := ∃ t:Nat,e = .returned (.int .i64 (t:Nat))∧ToldO l t∧Upd [] w w'
theorem IntsIn.natAt {w:World} {a:Option Addr} {n:Nat} {l:List Nat} (h:IntsIn w a n (ints l)) (j:Nat) (hj:j<l.length) : ∃ b off,a=some ⟨b,off,none⟩∧w.cell? ⟨b,off+j,none⟩=some (.int .i64 (l.getD j 0:Nat)):=by
 obtain ⟨b,off,e,c,_⟩:=h.cell j (by simpa [ints] using hj)
 refine ⟨b,off,e,?_⟩
 rw [c]
 simp [ints,List.getD_eq_getElem?_getD,hj]
set_option maxRecDepth 100000 in
set_option maxHeartbeats 6400000 in
theorem WG (l:List Nat) (a1 a2 a3 a4:Option Addr) (n1 n2 n3 c1 c2 c3 c4:Nat) (w:World) (hI:IntsIn w a4 19 (ints l)) :
 Calls Tryz.prog 161 #[.agg #[.slice a1 n1 c1,.slice a2 n2 c2,.slice a3 n3 c3,.slice a4 19 c4]] w fun e w'=>zi7 l w e w':=by
 have hB:=Blk.new w [.slice a1 n1 c1,.slice a2 n2 c2,.slice a3 n3 c3,.slice a4 19 c4] 177
 have HU1:=Lib.hid ((Upd.refl [] w).alloc (.cells #[.slice a1 n1 c1,.slice a2 n2 c2,.slice a3 n3 c3,.slice a4 19 c4] 177))
 have HI1:=Lib.hid (hI.pure HU1.out)
 have HLN:=Lib.hid hI.len
 have HB:=Lib.hid hB
 clear hI hB
 go_enter Tryz.func161,Tryz.ntmps161
 go_upto_region 1 with fail
 change Code.wp _ _ _ _ (w.alloc (.cells #[.slice a1 n1 c1,.slice a2 n2 c2,.slice a3 n3 c3,.slice a4 19 c4] 177))
 generalize w.alloc (.cells #[.slice a1 n1 c1,.slice a2 n2 c2,.slice a3 n3 c3,.slice a4 19 c4] 177)=w1 at *
 generalize w.heap.size=bx at *
 have c3':=HB.out.cell 3 rfl
 have HC3:=Lib.hid c3'
 go_wp2
 clear c3'
 go_loopg [3] 200 (fun gg s3 wr => ∃ m:Nat,4≤m∧m≤19∧gg=200-(19-m)∧s3 = .int .i64 (m:Nat)∧Hid (∀ i,m≤i→i<19→l.getD (qD.getD i 0) 0=0)∧Hid (Upd [] w1 wr))
 case atStart=>exact ⟨19,by omega,by omega,by omega,rfl,Lib.hid (fun i h1 h2=>by omega),Lib.hid (Upd.refl _ _)⟩
 case round =>
  obtain ⟨m,hm4,hm19,rfl,rfl,HZ,HU⟩:=hrel
  have q3:=HU.out.keep HC3.out
  by_cases hc:4<m
  · have hcz:(4:Int)<(m:Int):=by omega
    obtain ⟨k,hk⟩ : ∃ k,m=k+1:=⟨m-1,by omega⟩
    obtain ⟨hj,hjo⟩:=zc6 ⟨k,by omega⟩
    dsimp only at hj hjo
    have hjl:qD.getD k 0<l.length:=by have:=HLN.out; simp [ints] at this; omega
    obtain ⟨b,off,rfl,hcx⟩:=(HI1.out.pure HU.out).natAt _ hjl
    have HX:Hid (l.getD (qD.getD k 0) 0=l.getD (qD.getD k 0) 0):=Lib.hid rfl
    have HK:=Lib.hid (zt qD k _ hjo)
    have HKM:=Lib.hid hk
    have hkm:k<m:=by omega
    have hmk:m≤k+1:=by omega
    have hwk:IntKind.i64.wrap ((m:Int)-1)=(k:Int):=by rw [IntWalk.i64_in _ (by omega)]; omega
    have hkz:(k:Int)<19:=by omega
    obtain ⟨x,hx⟩ : ∃ x,l.getD (qD.getD k 0) 0=x:=⟨_,rfl⟩
    rw [hx] at hcx
    obtain ⟨j,hjj⟩ : ∃ j,qD.getD k 0=j:=⟨_,rfl⟩
    rw [hjj] at hcx HK hj
    have hjz:(j:Int)<19:=by omega
    have HXE:=Lib.hid hx
    clear hk hjl hx hjj hjo hj
    have hkp:=hmk
    by_cases h0:x=0
    · have HX0:Hid (l.getD (qD.getD k 0) 0=0):=Lib.hid (by rw [HXE.out]; exact h0)
      have hxz:(x:Int)=0:=by omega
      have hxb:((x:Int)==0)=true:=by simpa using hxz
      go_wp2
      refine wp_region_held_drew (S:=fun w'=>HC [] wr [(⟨bx,3,none⟩,.slice (some ⟨b,off,none⟩) 19 c4)] w') (by kernel_rfl) (HC.of (fp:=[]) (W:=wr) (fs:=[(⟨bx,3,none⟩,.slice (some ⟨b,off,none⟩) 19 c4)]) ⟨q3,trivial⟩).drew (fun hHeld=>hdN ?_)
      refine hdT 0 (some 7) ?_; refine hdT 1 (some 8) ?_ (hy:=by intro w hSw; clear hSw; go_simp; try with_reducible rfl) (v := .bool true)
      refine hdT 2 (some 9) ?_; refine hdT 3 (some 10) ?_
      refine hdT 4 (some 11) ?_ (hy:=by intro w hSw; have q0:=hSw.cells.1; dsimp only at q0; clear hSw; go_simp; try with_reducible rfl)
      refine hdT 6 (some 13) ?_; refine hdT 7 (some 14) ?_ (hy:=by intro w hSw; clear hSw; go_simp; try with_reducible rfl) (v := .int .i64 (k:Nat))
      refine hdO 5 (fun K hK=>?_)
      go_simp
      refine (VW _).mono ?_
      rintro e z ⟨g,rfl,hB,hU⟩
      go_wp2
      refine hK.out _ _ (HC.then hHeld hU) (fun hHeld=>hdN ?_)
      clear hK K
      have co:=hB.cell k HK.out
      have cl:=hHeld.upd.keep hcx
      have k3:=hHeld.cells.1
      dsimp only at k3
      refine JK (S':=fun w'=>HC [] z [(⟨bx,3,none⟩,.slice (some ⟨b,off,none⟩) 19 c4),(⟨g,k,none⟩,.int .i64 (j:Nat)),(⟨b,off+j,none⟩,.int .i64 (x:Nat))] w') (fun w' h=>hHeld.more (by simp) h) _ _ _ _ ?_
      have HHz:=Lib.hid hHeld
      clear hHeld
      have hHeld:HC [] z [(⟨bx,3,none⟩,.slice (some ⟨b,off,none⟩) 19 c4),(⟨g,k,none⟩,.int .i64 (j:Nat)),(⟨b,off+j,none⟩,.int .i64 (x:Nat))] z:=HC.of ⟨k3,co,cl,trivial⟩
      refine hdT 8 (some 15) ?_
      refine hdT 9 (some 16) ?_ (hy:=by intro w hSw; have q0:=hSw.cells.2.1; dsimp only at q0; clear hSw; go_simp; try with_reducible rfl)
      refine hdT 10 (some 17) ?_
      refine hdT 11 (some 18) ?_ (hy:=by intro w hSw; have q0:=hSw.cells.2.2.1; dsimp only at q0; clear hSw; go_simp; try with_reducible rfl)
      refine hdT 12 (some 19) ?_ (hy:=by intro w hSw; clear hSw; go_simp; try with_reducible rfl) (v := .bool true); refine hdT 13 (some 20) ?_
      refine wpAnyH_done (by kernel_rfl) ?_ 0
      have HUz:=Lib.hid (HU.out.then (HHz.out.upd.then hHeld.upd))
      clear hHeld
      go_wp2
      go_roundg (200-(19-k))
      · exact ⟨k,by omega,by omega,by omega,by first | rfl | go_num,Lib.hid (fun i h1 h2=>by
         rcases Nat.eq_or_lt_of_le h1 with rfl | h3
         · exact HX0.out
         · exact HZ.out i (by omega) h2),Lib.hid HUz.out⟩
      · omega
    · have HX0:Hid (l.getD (qD.getD (m-1) 0) 0≠0):=Lib.hid (by rw [show m-1=k by omega,HXE.out]; exact h0)
      have hxz : ¬ (x:Int)=0:=by omega
      have hxb:((x:Int)==0)=false:=by simpa using hxz
      go_wp2
      refine wp_region_held_drew (S:=fun w'=>HC [] wr [(⟨bx,3,none⟩,.slice (some ⟨b,off,none⟩) 19 c4)] w') (by kernel_rfl) (HC.of (fp:=[]) (W:=wr) (fs:=[(⟨bx,3,none⟩,.slice (some ⟨b,off,none⟩) 19 c4)]) ⟨q3,trivial⟩).drew (fun hHeld=>hdN ?_)
      refine hdT 0 (some 7) ?_; refine hdT 1 (some 8) ?_ (hy:=by intro w hSw; clear hSw; go_simp; try with_reducible rfl) (v := .bool true)
      refine hdT 2 (some 9) ?_; refine hdT 3 (some 10) ?_
      refine hdT 4 (some 11) ?_ (hy:=by intro w hSw; have q0:=hSw.cells.1; dsimp only at q0; clear hSw; go_simp; try with_reducible rfl)
      refine hdT 6 (some 13) ?_; refine hdT 7 (some 14) ?_ (hy:=by intro w hSw; clear hSw; go_simp; try with_reducible rfl) (v := .int .i64 (k:Nat))
      refine hdO 5 (fun K hK=>?_)
      go_simp
      refine (VW _).mono ?_
      rintro e z ⟨g,rfl,hB,hU⟩
      go_wp2
      refine hK.out _ _ (HC.then hHeld hU) (fun hHeld=>hdN ?_)
      clear hK K
      have co:=hB.cell k HK.out
      have cl:=hHeld.upd.keep hcx
      have k3:=hHeld.cells.1
      dsimp only at k3
      refine JK (S':=fun w'=>HC [] z [(⟨bx,3,none⟩,.slice (some ⟨b,off,none⟩) 19 c4),(⟨g,k,none⟩,.int .i64 (j:Nat)),(⟨b,off+j,none⟩,.int .i64 (x:Nat))] w') (fun w' h=>hHeld.more (by simp) h) _ _ _ _ ?_
      have HHz:=Lib.hid hHeld
      clear hHeld
      have hHeld:HC [] z [(⟨bx,3,none⟩,.slice (some ⟨b,off,none⟩) 19 c4),(⟨g,k,none⟩,.int .i64 (j:Nat)),(⟨b,off+j,none⟩,.int .i64 (x:Nat))] z:=HC.of ⟨k3,co,cl,trivial⟩
      refine hdT 8 (some 15) ?_
      refine hdT 9 (some 16) ?_ (hy:=by intro w hSw; have q0:=hSw.cells.2.1; dsimp only at q0; clear hSw; go_simp; try with_reducible rfl)
      refine hdT 10 (some 17) ?_
      refine hdT 11 (some 18) ?_ (hy:=by intro w hSw; have q0:=hSw.cells.2.2.1; dsimp only at q0; clear hSw; go_simp; try with_reducible rfl)
      refine hdT 12 (some 19) ?_ (hy:=by intro w hSw; clear hSw; go_simp; try with_reducible rfl) (v := .bool false); refine hdT 13 (some 20) ?_
      refine wpAnyH_done (by kernel_rfl) ?_ 0
      have HUz:=Lib.hid (HU.out.then (HHz.out.upd.then hHeld.upd))
      clear hHeld
      go_wp2
      go_ret
      exact ⟨_,rfl,⟨by omega,by omega,HZ.out,.inr HX0.out⟩,HU1.out.then HUz.out⟩
  · have hcz : ¬ (4:Int)<(m:Int):=by omega
    go_wp2
    refine wp_region_held_drew (S:=fun w'=>HC [] wr [] w') (by kernel_rfl) (HC.of (fp:=[]) (W:=wr) (fs:=[]) trivial).drew (fun hHeld=>hdN ?_)
    refine hdT 0 (some 7) ?_; refine hdT 1 (some 8) ?_ (hy:=by intro w hSw; clear hSw; go_simp; try with_reducible rfl) (v := .bool false)
    refine hdT 2 (some 9) ?_; refine hdK 3 (some 10) ?_; refine hdK 4 (some 11) ?_; refine hdK 5 (some 12) ?_; refine hdK 6 (some 13) ?_
    refine hdK 7 (some 14) ?_; refine hdK 8 (some 15) ?_; refine hdK 9 (some 16) ?_; refine hdK 10 (some 17) ?_; refine hdK 11 (some 18) ?_
    refine hdK 12 (some 19) ?_; refine hdT 13 (some 20) ?_
    refine wpAnyH_done (by kernel_rfl) ?_ 0
    go_wp2
    go_ret
    exact ⟨_,rfl,⟨by omega,by omega,HZ.out,.inl (by omega)⟩,(HU1.out.then HU.out).drew⟩
def szT (lens:List Nat) (l:List StpD):Nat:=(l.map fun s=>lens.getD s.sym 0+s.bits).sum
theorem zfm (lens:List Nat) (l:List StpD) (s:StpD):szT lens (l++[s])=szT lens l+(lens.getD s.sym 0+s.bits):=by unfold szT; simp
theorem zcu (lens:List Nat) (hl : ∀ j,lens.getD j 0≤15) : ∀ (l:List StpD),(∀ s∈l,s.bits≤7)→szT lens l≤22*l.length
 | [],_=>by simp [szT]
 | s::l,h=>by
   have ih:=zcu lens hl l (fun x hx=>h x (List.mem_cons_of_mem _ hx))
   have h1:=hl s.sym
   have h2:=h s List.mem_cons_self
   unfold szT at *
   rw [List.map_cons,List.sum_cons,List.length_cons]
   omega
def ziV (lens:List Nat) (l:List StpD) (w:World) (e:Ending) (w':World):Prop := ∃ t:Nat,e = .returned (.int .i64 ((14+3*t+szT lens l:Nat):Int))∧ToldO lens t∧Upd [] w w'
set_option maxRecDepth 100000 in
set_option maxHeartbeats 6400000 in
theorem zgW (lens:List Nat) (l:List StpD) (a1 a2 a3 a4:Option Addr) (n1 n2 n3 c1 c2 c3 c4:Nat) (w:World) (hI:IntsIn w a4 19 (ints lens)) (hS:StpIn w a3 n3 l) (hn:n3≤100000) (hl : ∀ j,lens.getD j 0≤15) (hs : ∀ s∈l,s.sym<19∧s.bits≤7) :
 Calls Tryz.prog 130 #[.agg #[.slice a1 n1 c1,.slice a2 n2 c2,.slice a3 n3 c3,.slice a4 19 c4]] w fun e w'=>ziV lens l w e w':=by
 have hB:=Blk.new w [.slice a1 n1 c1,.slice a2 n2 c2,.slice a3 n3 c3,.slice a4 19 c4] 177
 have HU1:=Lib.hid ((Upd.refl [] w).alloc (.cells #[.slice a1 n1 c1,.slice a2 n2 c2,.slice a3 n3 c3,.slice a4 19 c4] 177))
 have HI1:=Lib.hid (hI.pure HU1.out)
 have HS1:=Lib.hid (hS.pure HU1.out)
 have HLN:=Lib.hid hI.len
 have HLS:=Lib.hid hS.len
 have HSY:=Lib.hid hs
 have HL15:=Lib.hid hl
 have HZB:=Lib.hid (fun i=>zcu lens hl (l.take i) (fun s h=>(hs s (List.mem_of_mem_take h)).2))
 have HB:=Lib.hid hB
 have HBC:=Lib.hid (hB.cell 0 rfl)
 clear hI hB hS hl hs
 go_enter Tryz.func130,Tryz.ntmps130
 go_upto_region 1 with fail
 change Code.wp _ _ _ _ (w.alloc (.cells #[.slice a1 n1 c1,.slice a2 n2 c2,.slice a3 n3 c3,.slice a4 19 c4] 177))
 generalize w.alloc (.cells #[.slice a1 n1 c1,.slice a2 n2 c2,.slice a3 n3 c3,.slice a4 19 c4] 177)=w1 at *
 generalize w.heap.size=bx at *
 have q0:=HB.out.cell 0 rfl
 have q1:=HB.out.cell 1 rfl
 have q2:=HB.out.cell 2 rfl
 have q3:=HB.out.cell 3 rfl
 have HC2:=Lib.hid q2
 have HC3:=Lib.hid q3
 have HTO:=Lib.hid (WG lens a1 a2 a3 a4 n1 n2 n3 c1 c2 c3 c4 w1 HI1.out)
 go_wp2_with fail
 refine HTO.out.mono ?_
 rintro e w2 ⟨t,rfl,ht,hU2⟩
 have ht4:=ht.lo
 have ht19:=ht.hi
 have HT:=Lib.hid ht
 have HU2:=Lib.hid hU2
 have q2':=hU2.keep HC2.out
 have hw3:IntKind.i64.wrap (3*(t:Int))=3*(t:Int):=IntWalk.i64_in _ (by omega)
 have hw14:IntKind.i64.wrap (14+3*(t:Int))=14+3*(t:Int):=IntWalk.i64_in _ (by omega)
 clear q0 q1 q2 q3 ht hU2 HTO HBC
 go_wp2
 clear hw3 hw14 q2'
 go_loopg [3,13] 200000 (fun gg s3 s13 wr => ∃ i:Nat,i≤n3∧gg=200000-i∧s13 = .int .i64 (i:Nat)∧s3 = .int .i64 ((14+3*t+szT lens (l.take i):Nat):Int)∧Hid (Upd [] w2 wr))
 case atStart=>exact ⟨0,by omega,by omega,rfl,by first | rfl | (rw [List.take_zero,show szT lens []=0 from rfl]; first | rfl | go_num),Lib.hid (Upd.refl _ _)⟩
 case round =>
  obtain ⟨i,hin,rfl,rfl,rfl,HU⟩:=hrel
  have hzb:szT lens (l.take i)≤22*i:=Nat.le_trans (HZB.out i) (Nat.mul_le_mul_left _ (List.length_take_le _ _))
  by_cases hc:i<n3
  · have hcz:(i:Int)<(n3:Int):=by omega
    have hil:i<l.length:=by rw [HLS.out]; exact hc
    have hw1:IntKind.i64.wrap ((i:Int)+1)=((i+1:Nat):Int):=by rw [IntWalk.i64_in _ (by omega)]; rfl
    obtain ⟨b,off,rfl,hc1,hc2,hc3⟩:=(HS1.out.pure (HU2.out.then HU.out)).cell i hil
    have HST:Hid (szT lens (l.take (i+1))=szT lens (l.take i)+(lens.getD l[i].sym 0+l[i].bits)):=Lib.hid (by rw [List.take_succ_eq_append_getElem hil,zfm])
    obtain ⟨hy19,hb7⟩:=HSY.out l[i] (List.getElem_mem hil)
    generalize l[i]=s at *
    obtain ⟨sy,sb,sm⟩:=s
    dsimp only at hc1 hc2 hc3 hy19 hb7 HST
    have hjl:sy<lens.length:=by have:=HLN.out; simp [ints] at this; omega
    obtain ⟨b4,off4,rfl,hcx⟩:=((HI1.out.pure HU2.out).pure HU.out).natAt sy hjl
    have hx15:=HL15.out sy
    generalize lens.getD sy 0=x at *
    have hT4:=Blk.new wr [.int .i64 (sy:Nat),.int .i64 (sb:Nat),.int .i64 (sm:Nat)] 217
    have hU4:=(Upd.refl [] wr).alloc (.cells #[.int .i64 (sy:Nat),.int .i64 (sb:Nat),.int .i64 (sm:Nat)] 217)
    have hcy:=hU4.keep hcx
    have k3:=hU4.keep (HU.out.keep (HU2.out.keep HC3.out))
    have HU4:=Lib.hid (HU.out.then hU4)
    generalize szT lens (l.take i)=S at *
    clear hil hjl hU4
    obtain ⟨R,hR⟩ : ∃ R,14+3*t+S=R:=⟨_,rfl⟩
    obtain ⟨X,hX⟩ : ∃ X,x+sb=X:=⟨_,rfl⟩
    obtain ⟨Y,hY⟩ : ∃ Y,14+3*t+(S+X)=Y:=⟨_,rfl⟩
    have hwa:IntKind.i64.wrap ((x:Int)+(sb:Int))=(X:Int):=by rw [IntWalk.i64_in _ (by omega)]; omega
    have hwb:IntKind.i64.wrap ((R:Int)+(X:Int))=(Y:Int):=by rw [IntWalk.i64_in _ (by omega)]; omega
    rw [hR]
    have HY:Hid (14+3*t+szT lens (l.take (i+1))=Y):=Lib.hid (by rw [HST.out,hX,hY])
    have hsyz:(sy:Int)<19:=by omega
    clear hY hR hX hzb hx15 hb7
    go_upto_region 5 with fail
    change Code.wp _ _ _ _ (wr.alloc (.cells #[.int .i64 (sy:Nat),.int .i64 (sb:Nat),.int .i64 (sm:Nat)] 217))
    generalize wr.alloc (.cells #[.int .i64 (sy:Nat),.int .i64 (sb:Nat),.int .i64 (sm:Nat)] 217)=w4 at *
    generalize wr.heap.size=q at *
    have t0:=hT4.cell 0 rfl
    have t1:=hT4.cell 1 rfl
    clear hT4 hc1 hc2 hc3 hcx
    go_quiet (fail)
    go_wp2
    go_roundg (200000-(i+1))
    · exact ⟨i+1,by omega,by omega,by first | rfl | go_num,by rw [HY.out],Lib.hid (HU4.out.drewN _)⟩
    · omega
  · have hcz : ¬ (i:Int)<(n3:Int):=by omega
    obtain rfl:i=n3:=by omega
    have htk:l.take i=l:=List.take_of_length_le (by rw [HLS.out]; exact Nat.le_refl _)
    rw [htk] at hzb ⊢
    go_wp2
    go_ret
    exact ⟨t,rfl,HT.out,HU1.out.then (HU2.out.then HU.out)⟩
end Go.Proofs.YtfkcdnaghndgfaaGreatDoor
namespace Go.Proofs.YtfkcdnaghndgfaaGreatDoor
open Go.RowKit
def ziK (l:List Nat) (w:World) (e:Ending) (w':World):Prop := ∃ v,e = .returned v∧OwnX w w' 3 v (zf l)∧Upd [] w w'
set_option maxRecDepth 100000 in
set_option maxHeartbeats 6400000 in
theorem zd2 (l:List Nat) (ad:Addr) (n c:Nat) (w:World) (hl:l.length=n) (hc : ∀ j u,(zf l)[j]? =some u→w.cell? (ad.add j)=some u) (hn:n≤1000000) :
 Calls Tryz.prog 190 #[.slice (some ad) n c] w fun e w'=>ziK l w e w':=by
 obtain ⟨i0,hi,hz0,hz1,hz2⟩:=info_parts qr
 have hnil : ∀ w,(binOp .eql 98 (.slice (some ad) n c) (.slice none 0 0)).run Tryz.prog w = .ok (.bool false) w:=fun w=>Lib.run_eql_slice_nil w 98 3 (some ad) n c 0 0 Tryz.underlying98
 go_enter Tryz.func190,Tryz.ntmps190
 have HL:Hid ((zf l).length=n*1):=Lib.hid (by rw [zl,hl,Nat.mul_one])
 have HN:Hid (∀ j u,(zf l)[j]? =some u→(w.alloc (.cells #[] 3)).cell? (ad.add j)=some u):=Lib.hid (fun j u hj=>by
  have h7:=hc j u hj
  exact (((Upd.refl [] w).alloc (.cells #[] 3)).cell (World.block_lt_of_cell? w _ h7) (by simp)).trans h7)
 clear hl hc
 go_wp2_with (at_builtin; refine zC _ rfl _ _ 98 rfl 3 i0 _ 1 8 Tryz.underlying98 hi hz0 hz1 hz2 rfl (by omega) (.slice (some ⟨w.heap.size,0,none⟩) 0 0) 0 [] rfl (Row.new w [] 3 0 1 (by unfold maxLen; omega) rfl) ad n c (zf l) rfl HL.out HN.out (yZ _) (by unfold maxLen; omega) (by omega) ?_)
 intro v5 w5 hR5 hU5 hT5
 have HR:Hid (OwnX w w5 3 v5 (zf l)):=Lib.hid (by
  refine ⟨?_,fun k hk=>?_⟩
  · rw [HL.out,Nat.mul_one]
    exact hR5
  · rcases hT5 with h | ⟨g,h1,h2⟩
    · rw [hk] at h
      simp [Value.ownBlock] at h
      omega
    · rw [hk] at h1
      cases h1
      have:=((Upd.refl [] w).alloc (.cells #[] 3)).size
      omega)
 have HU:Hid (Upd [] w w5):=Lib.hid (((Upd.refl [] w).alloc (.cells #[] 3)).trans hU5 (fun k hk=>by
  simp [Value.ownBlock] at hk
  exact .inr (by omega)))
 clear hR5 hU5 hT5
 go_wp2
 go_ret
 exact ⟨_,rfl,HR.out,HU.out⟩
structure TrimO (l:List Nat) (least:Int) (n m:Nat):Prop where
 le:m≤n
 zero : ∀ i,m≤i→i<n→l.getD i 0=0
 few:m=n∨least≤m
 last:m=0∨(m:Int)≤least∨l.getD (m-1) 0≠0
def zih (l:List Nat) (least:Int) (n:Nat) (w:World) (e:Ending) (w':World):Prop := ∃ v m,e = .returned v∧TrimO l least n m∧OwnX w w' 3 v (zf (l.take m))∧Upd [] w w'
set_option maxRecDepth 100000 in
set_option maxHeartbeats 6400000 in
theorem zaL (l:List Nat) (b off n c:Nat) (least:Int) (w:World) (hl:l.length=n) (hnc:n≤c) (hc : ∀ j,(h:j<l.length)→w.cell? ⟨b,off+j,none⟩=some (.int .i64 (l[j]:Nat))) (hn:n≤1000000) :
 Calls Tryz.prog 156 #[.slice (some ⟨b,off,none⟩) n c,.int .i64 least] w fun e w'=>zih l least n w e w':=by
 have HC:=Lib.hid hc
 have HLN:=Lib.hid hl
 clear hc hl
 go_enter Tryz.func156,Tryz.ntmps156
 go_wp2
 go_loopg [5] 1000000 (fun gg s5 wr => ∃ m:Nat,m≤n∧gg=1000000-(n-m)∧s5 = .int .i64 (m:Nat)∧wr=w∧Hid (∀ i,m≤i→i<n→l.getD i 0=0)∧Hid (m=n∨least≤m))
 case atStart=>exact ⟨n,by omega,by omega,rfl,rfl,Lib.hid (fun i h1 h2=>by omega),Lib.hid (.inl rfl)⟩
 case round =>
  obtain ⟨m,hmn,rfl,rfl,hwr,HZ,HF⟩:=hrel
  subst hwr
  have hfin : ∀ (HLa:Hid (m=0∨(m:Int)≤least∨l.getD (m-1) 0≠0)),Calls Tryz.prog 190 #[.slice (some ⟨b,off,none⟩) m c] wr fun e w'=>zih l least n wr e w':=fun HLa=>by
   refine (zd2 (l.take m) ⟨b,off,none⟩ m c wr (by rw [List.length_take,HLN.out]; omega) (fun j u hj=>?_) (by omega)).mono ?_
   · rw [zf,List.getElem?_map] at hj
     obtain ⟨x,hx,rfl⟩:=Option.map_eq_some_iff.1 hj
     obtain ⟨hj1,rfl⟩:=List.getElem?_eq_some_iff.1 hx
     rw [kz,List.getElem_take]
     exact HC.out j (by rw [List.length_take] at hj1; omega)
   · rintro e w' ⟨v,rfl,h1,h2⟩
     exact ⟨v,m,rfl,⟨hmn,HZ.out,HF.out,HLa.out⟩,h1,h2⟩
  have HFIN:=Lib.hid hfin
  clear hfin
  have hmc:(m:Int)≤(c:Int):=by omega
  have hm0:(0:Int)≤(m:Int):=by omega
  have hend : ∀ (HLa:Hid (m=0∨(m:Int)≤least∨l.getD (m-1) 0≠0)),True:=fun _=>trivial
  clear hend
  rcases Nat.eq_zero_or_pos m with h0 | h0
  · subst h0
    have HCL:=Lib.hid (HFIN.out (Lib.hid (.inl rfl)))
    clear HFIN
    go_wp2_with fail
    refine HCL.out.mono ?_
    rintro e w' ⟨v,m,rfl,h1,h2,h3⟩
    have HA:=Lib.hid (And.intro h1 (And.intro h2 h3))
    clear h1 h2 h3 HCL
    go_wp2
    go_ret
    exact ⟨v,m,rfl,HA.out.1,HA.out.2.1,HA.out.2.2⟩
  · have h0z:(0:Int)<(m:Int):=by omega
    by_cases h1:(m:Int)≤least
    · have HCL:=Lib.hid (HFIN.out (Lib.hid (.inr (.inl h1))))
      clear HFIN
      have h1z : ¬ least<(m:Int):=by omega
      go_wp2_with fail
      refine HCL.out.mono ?_
      rintro e w' ⟨v,m,rfl,h1,h2,h3⟩
      have HA:=Lib.hid (And.intro h1 (And.intro h2 h3))
      clear h1 h2 h3 HCL
      go_wp2
      go_ret
      exact ⟨v,m,rfl,HA.out.1,HA.out.2.1,HA.out.2.2⟩
    · have h1z:least<(m:Int):=by omega
      obtain ⟨p,rfl⟩ : ∃ p,m=p+1:=⟨m-1,by omega⟩
      have hpl:p<l.length:=by rw [HLN.out]; omega
      have hcp:=HC.out p hpl
      have HG:Hid (l.getD p 0=l[p]):=Lib.hid (by simp [List.getD_eq_getElem?_getD,hpl])
      generalize l[p]=x at *
      have hw1:IntKind.i64.wrap (((p+1:Nat):Int)-1)=(p:Int):=by rw [IntWalk.i64_in _ (by omega)]; omega
      clear hpl
      by_cases hx:x=0
      · subst hx
        clear HFIN
        go_wp2
        go_roundg (1000000-(n-p))
        · exact ⟨p,by omega,rfl,by first | rfl | go_num,rfl,Lib.hid (fun i hi hin=>by
           rcases Nat.lt_or_ge i (p+1) with h | h
           · obtain rfl:i=p:=by omega
             exact HG.out
           · exact HZ.out i h hin),Lib.hid (.inr (by omega))⟩
        · omega
      · have hxz : ¬ (x:Int)=0:=by omega
        have HCL:=Lib.hid (HFIN.out (Lib.hid (.inr (.inr (by rw [Nat.add_sub_cancel,HG.out]; exact hx)))))
        clear HFIN
        go_wp2_with fail
        refine HCL.out.mono ?_
        rintro e w' ⟨v,m,rfl,h1,h2,h3⟩
        have HA:=Lib.hid (And.intro h1 (And.intro h2 h3))
        clear h1 h2 h3 HCL
        go_wp2
        go_ret
        exact ⟨v,m,rfl,HA.out.1,HA.out.2.1,HA.out.2.2⟩
end Go.Proofs.YtfkcdnaghndgfaaGreatDoor
namespace Go.Proofs.YtfkcdnaghndgfaaGreatDoor
theorem xj (n:Nat) (f:Nat→Nat) (i:Nat) (h:i<n):((List.range n).map f).getD i 0=f i:=by
 simp [List.getD_eq_getElem?_getD,h]
theorem Kz {many:List Int} {u:List Nat} {L n:Nat} (h:u.length≠1):ofL many u L n=(List.range n).map fun s=>qF many u L s:=by
 unfold ofL
 rw [if_neg h]
theorem qT (many:List Int) (u:List Nat) (L n:Nat):(ofL many u L n).length=n:=by
 unfold ofL
 split<;>simp
structure Fits (many:List Int) (u:List Nat) (L n:Nat) (l:List Nat):Prop where
 len:l.length=n
 iff : ∀ i,i<n→(0<l.getD i 0↔0<many.getD i 0)
 le : ∀ i,i<n→l.getD i 0≤L
 fall : ∀ i j,i≤j→(hj:j<u.length)→l.getD (u.getD j 0) 0≤l.getD (u.getD i 0) 0
 one:u.length=1→l.getD (u.getD 0 0) 0=1
 none:u=[]→yy l=0
 two:2≤u.length→yy l=32768
theorem zay (n:Nat) (f:Nat→Nat):yy ((List.range n).map f)=yt n (fun s=>wt (f s)):=by
 unfold yy yt
 rw [List.map_map]
 rfl
theorem Xi {u:List Nat} {i:Nat} (h:i<u.length):u.getD i 0∈u:=by
 rw [List.getD_eq_getElem?_getD,List.getElem?_eq_getElem h]
 exact List.getElem_mem h
theorem Je {many:List Int} {n:Nat} {u:List Nat} (hn:many.length=n) (hu:IsUsed many n u) (L:Nat) (h1:1≤L) (h15:L≤15) (hk:u.length≤2^L):Fits many u L n (ofL many u L n):=by
 rcases Nat.lt_or_ge u.length 2 with h2 | h2
 · rcases Nat.lt_or_ge u.length 1 with h0 | h0
   · have hu0:u=[]:=List.eq_nil_of_length_eq_zero (by omega)
     have hl : ∀ s,qF many u L s=0:=fun s=>by subst hu0; simp [qF,jH]
     have he:ofL many u L n=(List.range n).map fun s=>0:=by
      rw [Kz (by omega)]
      exact List.map_congr_left fun s _=>hl s
     rw [he]
     refine ⟨by simp,fun i hi=>?_,fun i hi=>by rw [xj n _ i hi]; omega,fun i j hij hj=>by omega,fun h=>by omega,fun _=>?_,fun h=>by omega⟩
     · rw [xj n _ i hi]
       constructor
       · intro h; omega
       · intro h
         have:=(hu.mem i).2 ⟨hi,h⟩
         rw [hu0] at this
         simp at this
     · rw [zay]
       have:yt n (fun s=>wt 0)=n*wt 0:=kM n _
       rw [this]
       simp [wt]
   · have h1e:u.length=1:=by omega
     obtain ⟨s,rfl⟩ : ∃ s,u=[s]:=by
      cases u with
      | nil=>simp at h1e
      | cons s r=>cases r with
        | nil=>exact ⟨s,rfl⟩
        | cons=>simp at h1e
     have hs:=(hu.mem s).1 (by simp)
     have he:ofL many [s] L n=(List.replicate n 0).set s 1:=by simp [ofL]
     have hg : ∀ i,i<n→(ofL many [s] L n).getD i 0=if i=s then 1 else 0:=by
      intro i hi
      rw [he,List.getD_eq_getElem?_getD,List.getElem?_set]
      by_cases e:s=i
      · subst e; simp [hi]
      · rw [if_neg e,if_neg (fun q=>e q.symm)]; simp [hi]
     refine ⟨by rw [he]; simp,fun i hi=>?_,fun i hi=>by rw [hg i hi]; split<;>omega,fun i j hij hj=>?_,fun _=>?_,fun h=>by simp at h,fun h=>by simp at h⟩
     · rw [hg i hi]
       have:=hu.mem i
       simp at this
       by_cases e:i=s
       · rw [if_pos e]; exact ⟨fun _=>by rw [e]; exact hs.2,fun _=>by omega⟩
       · rw [if_neg e]
         constructor
         · intro q; omega
         · intro q; exact absurd (this.2 ⟨hi,by simpa [List.getD_eq_getElem?_getD] using q⟩) e
     · simp at hj
       obtain rfl:j=0:=by omega
       obtain rfl:i=0:=by omega
       exact Nat.le_refl _
     · show (ofL many [s] L n).getD s 0=1
       rw [hg s hs.1,if_pos rfl]
 · obtain ⟨_,c,c1,c2,c3,c4,c5,_⟩:=Ki many u L hu.srt h2 hk
   have hlt : ∀ s∈u,s<n:=fun s hs=>((hu.mem s).1 hs).1
   have hc : ∀ i,i<u.length→qF many u L (u.getD i 0)=c i:=fun i hi=>by
    rw [List.getD_eq_getElem?_getD,List.getElem?_eq_getElem hi]
    exact c4 i hi
   rw [Kz (by omega)]
   refine ⟨by simp,fun i hi=>?_,fun i hi=>?_,fun i j hij hj=>?_,fun h=>by omega,fun h=>by subst h; simp at h2,fun _=>?_⟩
   · rw [xj n _ i hi]
     have hm:=hu.mem i
     by_cases hiu:i∈u
     · obtain ⟨k,hk2,rfl⟩:=List.getElem_of_mem hiu
       rw [c4 k hk2]
       exact ⟨fun _=>(hm.1 hiu).2,fun _=>by have:=(c1 k hk2).1; omega⟩
     · rw [c5 i hiu]
       exact ⟨fun q=>by omega,fun q=>absurd (hm.2 ⟨hi,q⟩) hiu⟩
   · rw [xj n _ i hi]
     by_cases hiu:i∈u
     · obtain ⟨k,hk2,rfl⟩:=List.getElem_of_mem hiu
       rw [c4 k hk2]
       exact (c1 k hk2).2
     · rw [c5 i hiu]; omega
   · rw [xj n _ _ (hlt _ (Xi hj)),xj n _ _ (hlt _ (Xi (by omega))),hc j hj,hc i (by omega)]
     exact c2 i j hij
   · rw [zay,zc3 n _ u hu.nodup hlt (fun s _ hs=>by rw [c5 s hs]; simp [wt]),zfX]
     have e1:yt u.length (fun i=>wt (qF many u L (u.getD i 0)))=yt u.length (fun i=>2^(15-L)*2^(L-c i)):=qg fun i hi=>by
      rw [hc i hi]
      have:=c1 i hi
      unfold wt
      rw [if_neg (by omega),← Nat.pow_add]
      congr 1
      omega
     have e2 : ∀ m,yt m (fun i=>2^(15-L)*2^(L-c i))=2^(15-L)*yt m (fun i=>2^(L-c i)):=by
      intro m
      induction m with
      | zero=>rfl
      | succ m ih=>rw [zX,zX,ih,Nat.mul_add]
     rw [e1,e2,c3,← Nat.pow_add]
     have:15-L+L=15:=by omega
     rw [this]
end Go.Proofs.YtfkcdnaghndgfaaGreatDoor
