/- Package lens: Used: its walk (slices.SortFunc by the shelf's contract). -/
import Derived.Test.YtfkcdnaghndgfaaGreatDoorQBK
import Derived.Test.YtfkcdnaghndgfaaGreatDoorQBJ
import Derived.Test.YtfkcdnaghndgfaaGreatDoorQAC
import Derived.Lib.MinMax
import Derived.ArgAppend
set_option linter.unusedVariables false
set_option linter.unusedSimpArgs false
set_option linter.unusedSectionVars false
namespace Go.Proofs.YtfkcdnaghndgfaaGreatDoor
open Go.RowKit
def xB (many:List Int) (n:Nat):List Nat:=(List.range n).filter fun i=>decide (0<many.getD i 0)
theorem zd7 (many:List Int) (n:Nat):xB many (n+1)=xB many n++if 0<many.getD n 0 then [n] else []:=by
 unfold xB
 rw [List.range_succ,List.filter_append]
 by_cases h:0<many.getD n 0
 · rw [if_pos h,List.filter_cons_of_pos (by simpa using h)]; rfl
 · rw [if_neg h,List.filter_cons_of_neg (by simpa using h)]; rfl
theorem xY (many:List Int) (n i:Nat):i∈xB many n↔i<n∧0<many.getD i 0:=by
 unfold xB
 rw [List.mem_filter,List.mem_range]
 simp
theorem WT (many:List Int) (n:Nat):(xB many n).length≤n:=by
 have:=List.length_filter_le (fun i=>decide (0<many.getD i 0)) (List.range n)
 rw [List.length_range] at this
 exact this
theorem zh2 (many:List Int) (x y:Nat):cfN many x y<0↔Ahead many x y:=by
 unfold cfN orN Ahead
 rcases Ju (yr (many.getD x 0)) (yr (many.getD y 0)) with ⟨h,e⟩ | ⟨h,e⟩ | ⟨h,e⟩
 · rw [e]
   rw [if_neg (by omega)]
   constructor
   · intro _; exact .inl h
   · intro _; omega
 · rw [e]
   rw [if_neg (by omega)]
   constructor
   · intro k; omega
   · intro k; omega
 · rw [e,if_pos rfl]
   rcases Ju x y with ⟨h2,e2⟩ | ⟨h2,e2⟩ | ⟨h2,e2⟩<;>rw [e2]<;>constructor<;>intro k<;>omega
def cfF (many:List Int) (m:Nat) (x y:Fin (m+1)):Int:=cfN many x.1 y.1
theorem ltF (many:List Int) (m:Nat) (x y:Fin (m+1)):ltOf (cfF many m) x y=true↔Ahead many x.1 y.1:=by
 unfold ltOf cfF
 rw [decide_eq_true_eq]
 exact zh2 many x.1 y.1
theorem qQ (many:List Int) (m:Nat) (x y:Fin (m+1)):ltOf (cfF many m) x y=false ↔ ¬ Ahead many x.1 y.1:=by
 rw [← ltF]
 cases ltOf (cfF many m) x y<;>simp
theorem zeg {many:List Int} {a b:Nat} (h1 : ¬ Ahead many a b) (h2:a≠b):Ahead many b a:=by
 unfold Ahead at *
 omega
theorem zi8 (many:List Int) (m:Nat):Sort.SWO (ltOf (cfF many m)) where
 irrefl x:=by rw [qQ]; exact Ahead.irrefl
 trans x y z h1 h2:=by rw [ltF] at *; exact h1.trans h2
 ntrans x y z h1 h2:=by
  rw [qQ] at *
  unfold Ahead at *
  omega
theorem zjc (many:List Int) (m:Nat) (x y:Fin (m+1)) (h1:ltOf (cfF many m) x y=false) (h2:ltOf (cfF many m) y x=false):x=y:=by
 rw [qQ] at *
 apply Fin.ext
 unfold Ahead at *
 omega
theorem Zk (many:List Int) (m:Nat) (hm:many.length=m+1) (d:List (Fin (m+1))) (hd:d.map Fin.val=xB many (m+1)):IsUsed many many.length ((d.mergeSort fun x y=>!(ltOf (cfF many m)) y x).map Fin.val):=by
 have hp:=List.mergeSort_perm d (fun x y=>!(ltOf (cfF many m)) y x)
 constructor
 · intro i
   rw [((hp.map Fin.val).mem_iff),hd,xY,hm]
 · have hs:=List.pairwise_mergeSort (le:=fun x y=>!(ltOf (cfF many m)) y x) (fun a b c h1 h2=>by
    simp only [Bool.not_eq_true'] at *
    rw [qQ] at *
    unfold Ahead at *
    omega) (fun a b=>by
    simp only [Bool.or_eq_true,Bool.not_eq_true']
    rw [qQ,qQ]
    unfold Ahead
    omega) d
   have hn:(d.mergeSort fun x y=>!(ltOf (cfF many m)) y x).Nodup:=by
    rw [hp.nodup_iff]
    have:(d.map Fin.val).Nodup:=by rw [hd]; exact List.nodup_range.filter _
    exact List.Pairwise.of_map Fin.val (fun a b h e=>h (by rw [e])) this
   rw [List.pairwise_map]
   refine (hs.and hn).imp ?_
   intro a b ⟨h1,h2⟩
   simp only [Bool.not_eq_true'] at h1
   rw [qQ] at h1
   exact zeg h1 (fun e=>h2 (Fin.ext e.symm))
theorem zi5 (many:List Int) (a:Option Addr) (n cap bx:Nat) (w0 w:World) (v:Value) (hB:Blk w bx [.slice a n cap] 98) (hI:IntsIn w0 a n many) (hn:n≤1000000) (hu:Upd [] w0 w) (hO:OwnX w0 w 3 v (zf (xB many n))) :
 Calls Tryz.prog 193 #[v,.func (.func 194) #[] #[.pointer (some ⟨bx,0,none⟩)]] w fun e w'=>e = .returned (.tuple #[]) ∧ ∃ u,IsUsed many many.length u∧OwnX w0 w' 3 v (zf u)∧Upd [] w0 w':=by
 by_cases hd:xB many n=[]
 · rw [hd] at hO
   obtain ⟨a',c',rfl⟩:=hO.form
   have h:=AnyF.slices_SortFunc_none (P:=Tryz.prog) (ρ:=YtfkcdnaghndgfaaGreatDoor.sortL_ren) { YtfkcdnaghndgfaaGreatDoor.sortL with } a' c' (.func (.func 194) #[] #[.pointer (some ⟨bx,0,none⟩)]) w
   change Calls Tryz.prog 193 _ _ _ at h
   refine h.mono ?_
   rintro e w' ⟨rfl,rfl⟩
   refine ⟨rfl,[],⟨fun i=>?_,List.Pairwise.nil⟩,hO,hu⟩
   have:=xY many n i
   rw [hd,← hI.len] at this
   exact this
 · obtain ⟨m,hm⟩ : ∃ m,n=m+1:=by
    cases n with
    | zero=>exact absurd rfl hd
    | succ m=>exact ⟨m,rfl⟩
   subst hm
   have hlen:many.length=m+1:=hI.len
   have hdl : ∃ d:List (Fin (m+1)),d.map Fin.val=xB many (m+1):=⟨(xB many (m+1)).attach.map fun x=>⟨x.1,((xY _ _ _).1 x.2).1⟩,by simp⟩
   obtain ⟨d,hdm⟩:=hdl
   have henc:zf (xB many (m+1))=d.map fun x:Fin (m+1)=>Value.int .i64 (x.1:Int):=by rw [← hdm]; simp [zf]
   have hk:d.length=(zf (xB many (m+1))).length:=by rw [henc]; simp
   have hpos:0<(zf (xB many (m+1))).length:=by
    rw [zl]
    cases h:xB many (m+1) with
    | nil=>exact absurd h hd
    | cons=>simp
   obtain ⟨blk,c',rfl,hbl,_⟩:=hO.1.form' hpos
   have hblk:w0.heap.size≤blk:=hO.2 blk rfl
   have hR:=hO.1
   obtain ⟨K,hK⟩ : ∃ K,(zf (xB many (m+1))).length=K:=⟨_,rfl⟩
   rw [hK] at hR hk hpos ⊢
   rw [henc] at hR
   have hne:bx≠blk:=fun e=>hR.neB hB (by decide) (by rw [e]; rfl)
   have ha : ∀ b off,a=some ⟨b,off,none⟩→b∉[blk]:=by
    intro b off e
    obtain ⟨b',off',e',hc,_⟩:=hI.cell 0 (by omega)
    rw [e] at e'
    injection e' with e'
    injection e' with e1
    have:=World.block_lt_of_cell? w0 _ hc
    simp at this ⊢
    omega
   have h:=Any.slices_SortFunc_total (P:=Tryz.prog) (ρ:=YtfkcdnaghndgfaaGreatDoor.sortL_ren) YtfkcdnaghndgfaaGreatDoor.sortL (fun x:Fin (m+1)=>Value.int .i64 (x.1:Int)) (fun x=>by simp [Value.oneCell']) (cfF many m) (zi8 many m) 194 #[.pointer (some ⟨bx,0,none⟩)] blk 0 c' d.toArray w (enters_of Tryz.func194 (by kernel_rfl) rfl)
    (fun k os dk hs x y=>by
     refine (WM many a (m+1) cap bx x.1 y.1 _ ((hB.upd (QX _ w blk 0 k dk os) (by simpa using hne)).cell 0 rfl) ((hI.pure hu).upd (QX _ w blk 0 k dk os) ha) x.2 y.2 hn).mono ?_
     rintro e w' ⟨rfl,q,os',rfl⟩
     exact ⟨rfl,q,os',rfl⟩)
    (fun j hj=>by
     have hj2:j<d.length:=by simpa using hj
     refine ⟨?_,by rw [Nat.zero_add]; exact hR.frz j⟩
     rw [Nat.zero_add,hR.cell j (u := .int .i64 (d[j].1:Int)) (by simp [hj2])]
     rw [getElem!_pos _ j hj]
     simp)
    hbl (by have h1:=WT many (m+1); rw [zl] at hK; simp; omega) (zjc many m)
   change Calls Tryz.prog 193 _ _ _ at h
   rw [List.size_toArray,hk] at h
   refine h.mono ?_
   rintro e w' ⟨rfl,q,os,rfl⟩
   refine ⟨rfl,(d.mergeSort fun x y=>!(ltOf (cfF many m)) y x).map Fin.val,Zk many m hlen d hdm,⟨?_,hO.2⟩,hu.trans (QX _ w blk 0 q _ os) (fun k hk => .inr (by simp at hk; omega))⟩
   have hl2:(d.mergeSort fun x y=>!(ltOf (cfF many m)) y x).length=K:=by rw [List.length_mergeSort,hk]
   have hs:=zeA (fun x:Fin (m+1)=>Value.int .i64 (x.1:Int)) w blk q _ c' 3 (d.mergeSort fun x y=>!(ltOf (cfF many m)) y x) _ os hl2 hR
   have e2:zf ((d.mergeSort fun x y=>!(ltOf (cfF many m)) y x).map Fin.val)=(d.mergeSort fun x y=>!(ltOf (cfF many m)) y x).map (fun x:Fin (m+1)=>Value.int .i64 (x.1:Int)):=by simp [zf]
   have e3:(zf ((d.mergeSort fun x y=>!(ltOf (cfF many m)) y x).map Fin.val)).length=K:=by rw [e2,List.length_map,hl2]
   rw [e2] at e3 ⊢
   rw [e3]
   exact hs
theorem ziZ (w:World) (v:Value) (e:TypeId) : ∀ j u,[v][j]? =some u→(w.alloc (.cells #[v] e)).cell? ((⟨w.heap.size,0,none⟩:Addr).add j)=some u:=World.news_of_block (cs := #[v]) (t:=e) (fr:=(0,0)) (heap_alloc_new _ _)
set_option maxRecDepth 100000 in
set_option maxHeartbeats 6400000 in
theorem WD (many:List Int) (a:Option Addr) (n cap:Nat) (w:World) (hI:IntsIn w a n many) (hn:n≤1000000) :
 Calls Tryz.prog 160 #[.slice a n cap] w fun e w' => ∃ v u,e = .returned v∧IsUsed many many.length u∧OwnX w w' 3 v (zf u)∧Upd [] w w':=by
 obtain ⟨i0,hi,hz0,hz1,hz2⟩:=info_parts qr
 have HI:=Lib.hid hI
 have HSO:=Lib.hid (fun bx w1 v h1 h2 h3=>zi5 many a n cap bx w w1 v h1 hI hn h2 h3)
 have HLN:=Lib.hid hI.len
 clear hI
 go_enter Tryz.func160,Tryz.ntmps160
 go_wp2
 go_loopg [2,7] 1000000 (fun gg s2 s7 wr => ∃ i:Nat,i≤n∧gg=1000000-i∧s7 = .int .i64 (i:Nat)∧Hid (OwnX w wr 3 s2 (zf (xB many i)))∧Hid (Upd [] w wr)∧Hid (Blk wr w.heap.size [.slice a n cap] 98))
 case atStart=>exact ⟨0,by omega,rfl,rfl,Lib.hid (OwnX.nil _ _ _),Lib.hid (((Upd.refl _ _).alloc _)),Lib.hid (Blk.new w _ _)⟩
 case round =>
  obtain ⟨i,hin,rfl,rfl,HO,HU,HB⟩:=hrel
  by_cases hc:i<n
  · have hcz:(i:Int)<(n:Int):=by omega
    have hil:i<many.length:=by rw [HLN.out]; exact hc
    obtain ⟨b,off,rfl,hc1,r1,r2⟩:=(HI.out.pure HU.out).cell i hil
    have HRS:Hid (xB many (i+1)=xB many i++if 0<many[i] then [i] else []):=Lib.hid (by rw [zd7]; simp [List.getD_eq_getElem?_getD,hil])
    generalize many[i]=m at *
    have hbx:=HB.out.cell 0 rfl
    clear hil
    obtain ⟨va,vc,rfl⟩:=HO.out.form
    obtain ⟨fl,hfl⟩ : ∃ fl,(zf (xB many i)).length=fl:=⟨_,rfl⟩
    rw [hfl] at HO ⊢
    have HFL:=Lib.hid hfl
    have hfb:fl≤1000000:=by rw [← hfl,zl]; have:=WT many i; omega
    have hw1:IntKind.i64.wrap ((i:Int)+1)=((i+1:Nat):Int):=by rw [IntWalk.i64_in _ (by omega)]; rfl
    clear hfl
    by_cases hp:0<m
    · have HR2:Hid (zf (xB many (i+1))=zf (xB many i)++[.int .i64 (i:Int)]):=Lib.hid (by rw [HRS.out,if_pos hp]; simp [zf])
      have hRz:=HO.out.1.alloc (.cells #[.int .i64 (i:Int)] 3)
      rw [HFL.out] at hRz
      clear HRS
      go_wp2_with (at_builtin; refine zC _ rfl _ _ 98 rfl 3 i0 _ 1 8 Tryz.underlying98 hi hz0 hz1 hz2 rfl (by omega) (.slice va fl vc) fl _ rfl hRz ⟨wr.heap.size,0,none⟩ 1 1 [.int .i64 (i:Int)] rfl rfl (ziZ _ _ _) (by simp [Value.oneCell']) (by unfold maxLen; omega) (by omega) ?_)
      intro v4 w4 hR4 hU4 hT4
      have hap:=HO.out.app HU.out ((Upd.refl [] wr).alloc (.cells #[.int .i64 (i:Int)] 3)) (ys:=[.int .i64 (i:Int)]) (by rw [HFL.out]; exact hR4) hU4 hT4
      have hb4:=(HB.out.alloc (.cells #[.int .i64 (i:Int)] 3)).upd hU4 (fun hm=>(HO.out.1.neB HB.out (by decide)) (by simpa using hm))
      have HAP:=Lib.hid hap
      have HB4:=Lib.hid hb4
      clear hR4 hU4 hT4 hap hb4 hRz
      go_wp2
      go_roundg (1000000-(i+1))
      · exact ⟨i+1,by omega,rfl,by first | rfl | go_num,Lib.hid (by rw [HR2.out]; exact HAP.out.1),Lib.hid HAP.out.2,HB4⟩
      · omega
    · have HR2:Hid (xB many (i+1)=xB many i):=Lib.hid (by rw [HRS.out,if_neg hp,List.append_nil])
      clear HRS
      go_wp2
      go_roundg (1000000-(i+1))
      · exact ⟨i+1,by omega,rfl,by first | rfl | go_num,Lib.hid (by rw [HR2.out]; exact HO.out),HU,HB⟩
      · omega
  · have hcz : ¬ (i:Int)<(n:Int):=by omega
    obtain rfl:i=n:=by omega
    go_wp2_with fail
    refine (HSO.out _ _ _ HB.out HU.out HO.out).mono ?_
    rintro e w1 ⟨rfl,u,h1,h2,h3⟩
    have H1:=Lib.hid h1
    have H2:=Lib.hid h2
    have H3:=Lib.hid h3
    clear h1 h2 h3
    go_wp2
    go_ret
    exact ⟨_,u,rfl,H1.out,H2.out,H3.out⟩
end Go.Proofs.YtfkcdnaghndgfaaGreatDoor
namespace Go.Proofs.YtfkcdnaghndgfaaGreatDoor
open Go.RowKit
theorem zcq (n:Nat) (hn:n≤1000000) (w:World):(Instr.makeSlice 98 (.int .i64 (n:Int)) (.int .i64 (n:Int))).run Tryz.prog w = .ok (.slice (some ⟨w.heap.size,0,none⟩) n n) (w.alloc (.cells (zf (List.replicate n 0)).toArray 3)):=by
 obtain ⟨i0,hi,hz0,hz1,hz2⟩:=info_parts qr
 have h:=run_make (P:=Tryz.prog) w 98 3 i0 _ Tryz.underlying98 hi hz0 .i64 .i64 (n:Int) (n:Int) (by omega) (by omega) (by rw [hz2]; omega) (by omega)
 rw [h,hz1]
 have e:madeCells (Value.int .i64 0).cells ((n:Int).toNat*1)=(zf (List.replicate n 0)).toArray:=by
  apply Array.toList_inj.1
  rw [show (Value.int .i64 0).cells = #[Value.int .i64 0] from rfl,toList_madeCells_one]
  simp [zf]
 rw [e]
 rfl
def ofL (many:List Int) (u:List Nat) (L n:Nat):List Nat:=if u.length=1 then (List.replicate n 0).set (u.getD 0 0) 1 else (List.range n).map fun s=>qF many u L s
def Wt (L:Int) (n:Nat) (u:List Nat):Prop:=L<1∨15<L∨300<n∨2^L.toNat<u.length
def zig (many:List Int) (u:List Nat) (L:Int) (n:Nat) (w:World) (v:Value) (w':World):Prop :=
 (Wt L n u∧v = .slice none 0 0)∨(¬ Wt L n u ∧ ∃ ob,v = .slice (some ⟨ob,0,none⟩) n n∧w.heap.size≤ob∧Blk w' ob (zf (ofL many u L.toNat n)) 3)
def OfP (many:List Int) (L:Int) (n:Nat) (w:World) (e:Ending) (w':World):Prop := ∃ v u,e = .returned v∧IsUsed many many.length u∧zig many u L n w v w'∧Upd [] w w'
theorem zhg (many:List Int) : ∃ u,IsUsed many many.length u:=by
 cases h:many.length with
 | zero=>exact ⟨[],IsUsed.nil many⟩
 | succ m =>
   have hdl : ∃ d:List (Fin (m+1)),d.map Fin.val=xB many (m+1):=⟨(xB many (m+1)).attach.map fun x=>⟨x.1,((xY _ _ _).1 x.2).1⟩,by simp⟩
   obtain ⟨d,hdm⟩:=hdl
   have:=Zk many m h d hdm
   rw [h] at this
   exact ⟨_,this⟩
set_option maxRecDepth 100000 in
set_option maxHeartbeats 6400000 in
theorem zcG (many:List Int) (a:Option Addr) (n cap:Nat) (L:Int) (w:World) (hI:IntsIn w a n many) (hn:n≤1000000) :
 Calls Tryz.prog 157 #[.slice a n cap,.int .i64 L] w fun e w'=>OfP many L n w e w':=by
 have HUSD:=Lib.hid (fun w1 (h:Upd [] w w1)=>WD many a n cap w1 (hI.pure h) hn)
 have HI:=Lib.hid hI
 obtain ⟨u0,hu0⟩:=zhg many
 have HU0:=Lib.hid hu0
 have HLN:=Lib.hid hI.len
 clear hI hu0
 by_cases h1:L<1
 · go_enter Tryz.func157,Tryz.ntmps157
   go_wp2
   go_ret
   exact ⟨_,u0,rfl,HU0.out,.inl ⟨.inl h1,rfl⟩,Upd.refl _ _⟩
 by_cases h2:15<L
 · go_enter Tryz.func157,Tryz.ntmps157
   go_wp2
   go_ret
   exact ⟨_,u0,rfl,HU0.out,.inl ⟨.inr (.inl h2),rfl⟩,Upd.refl _ _⟩
 by_cases h3:300<n
 · have h3z:(300:Int)<(n:Int):=by omega
   go_enter Tryz.func157,Tryz.ntmps157
   go_wp2
   go_ret
   exact ⟨_,u0,rfl,HU0.out,.inl ⟨.inr (.inr (.inl h3)),rfl⟩,Upd.refl _ _⟩
 have h3z : ¬ (300:Int)<(n:Int):=by omega
 have hmk:=zcq n hn
 obtain ⟨l,rfl⟩ : ∃ l:Nat,L=(l:Int):=⟨L.toNat,by omega⟩
 have hl1:1≤l:=by omega
 have hl2:l≤15:=by omega
 obtain ⟨P,hP⟩ : ∃ P:Nat,2^l=P:=⟨_,rfl⟩
 have hPb:P≤32768:=by
  have:=Nat.pow_le_pow_right (n:=2) (by omega) hl2
  omega
 have hpw:wrap64 ((2:Int)^l)=(P:Int):=by
  have:((2:Int)^l)=(P:Int):=by rw [← hP]; simp
  rw [this]
  unfold wrap64
  omega
 have HPP:=Lib.hid hP
 clear hP
 go_enter Tryz.func157,Tryz.ntmps157
 go_wp2_with fail
 refine (HUSD.out _ (Upd.refl _ _)).mono ?_
 rintro e w1 ⟨v1,u,rfl,hu,hO,hU⟩
 obtain ⟨a1,c1,rfl⟩:=hO.form
 obtain ⟨k,hk⟩ : ∃ k,(zf u).length=k:=⟨_,rfl⟩
 rw [hk] at hO ⊢
 have HK:Hid (u.length=k):=Lib.hid (by rw [← hk,zl])
 have HUs:=Lib.hid hu
 have HR1:Hid (Row w1 3 1 (.slice a1 k c1) k (zf u)):=Lib.hid (by have:=hO.1; rwa [hk] at this)
 have HU:=Lib.hid hU
 clear hk hu hO hU HUSD HU0
 have HTN:Hid ((l:Int).toNat=l):=Lib.hid (by omega)
 by_cases hb:P<k
 · have hbz:(P:Int)<(k:Int):=by omega
   go_wp2
   go_ret
   exact ⟨_,u,rfl,HUs.out,.inl ⟨.inr (.inr (.inr (by rw [HTN.out,HPP.out,HK.out]; exact hb))),rfl⟩,HU.out.alloc _⟩
 have hbz : ¬ (P:Int)<(k:Int):=by omega
 have HNB:Hid (¬ Wt (l:Int) n u):=Lib.hid (by
  unfold Wt
  rw [HTN.out,HPP.out,HK.out]
  omega)
 rcases Nat.lt_or_ge k 1 with hk0 | hk0
 · obtain rfl:k=0:=by omega
   go_wp2
   go_ret
   refine ⟨_,u,rfl,HUs.out,.inr ⟨HNB.out,_,rfl,HU.out.size,?_⟩,HU.out.alloc _⟩
   have hu:u=[]:=List.eq_nil_of_length_eq_zero HK.out
   have e:ofL many u (l:Int).toNat n=List.replicate n 0:=by
    subst hu
    unfold ofL
    rw [if_neg (by simp)]
    apply List.ext_getElem
    · simp
    · intro i h1 h2
      simp [qF,jH]
   rw [e]
   exact Blk.new w1 _ _
 · rcases Nat.lt_or_ge k 2 with hk1 | hk1
   · obtain rfl:k=1:=by omega
     have hu1:u.length=1:=HK.out
     have hlt:u[0]<n:=by have:=((HUs.out.mem u[0]).1 (List.getElem_mem (by omega))).1; rwa [HLN.out] at this
     obtain ⟨g,c2,hv,hg,hle⟩:=HR1.out.form' (by omega)
     cases hv
     have hc1:w1.cell? ⟨g,0,none⟩=some (.int .i64 (u[0]:Nat)):=HR1.out.cell 0 (by rw [zf,List.getElem?_map,List.getElem?_eq_getElem (by omega)]; rfl)
     have HE:Hid (ofL many u (l:Int).toNat n=(List.replicate n 0).set u[0] 1):=Lib.hid (by
      unfold ofL
      rw [if_pos hu1]
      simp [List.getD_eq_getElem?_getD,hu1])
     generalize u[0]=s at *
     have hsz:(s:Int)<(n:Int):=by omega
     have hb1:=Blk.new w1 (zf (List.replicate n 0)) 3
     have hf1:=hb1.frz s
     have hcc:=hb1.cell s (v := .int .i64 0) (by simp [zf,hlt])
     have hcg:(w1.alloc (.cells (zf (List.replicate n 0)).toArray 3)).cell? ⟨g,0,none⟩=some (.int .i64 (s:Nat)):=((Upd.refl [] w1).alloc (.cells (zf (List.replicate n 0)).toArray 3)).at hg (by simp) 0 |>.trans hc1
     have HB1:=Lib.hid hb1
     have HU2:=Lib.hid (HU.out.alloc (.cells (zf (List.replicate n 0)).toArray 3))
     have HSZ:=Lib.hid HU.out.size
     clear hb1 hu1 hg hc1 HK HR1 hle
     go_wp2
     go_ret
     refine ⟨_,u,rfl,HUs.out,.inr ⟨HNB.out,_,rfl,HSZ.out,?_⟩,HU.out.alloc _⟩
     rw [HE.out,xc]
     exact Blk.new w1 _ _
   · have hk1z : ¬ k=1:=by omega
     have hk1y:(1:Int)<(k:Int):=by omega
     have hrow:2*k-2≤(zQ (lvs many u) l).length:=by
      have:=(Ki many u l HUs.out.srt (by rw [HK.out]; exact hk1) (by rw [HK.out,HPP.out]; omega)).1
      rwa [HK.out] at this
     have hun:k≤n:=by
      have:=HUs.out.le
      rw [HK.out,HLN.out] at this
      exact this
     have hua:Upd [] w1 (w1.alloc (.cells (zf (List.replicate n 0)).toArray 3)):=(Upd.refl _ _).alloc _
     obtain ⟨g,c2,hv,hg,hle⟩:=HR1.out.form' (by omega)
     cases hv
     have HF:=Lib.hid (zfW many u l n n w1.heap.size k c1 cap (some ⟨g,0,none⟩) a _ (Blk.new w1 (zf (List.replicate n 0)) 3) (fun i hi=>⟨g,0,rfl,by
      rw [Nat.zero_add]
      exact (hua.at hg (by simp) i).trans (HR1.out.cell i (by rw [zf,List.getElem?_map,List.getElem?_eq_getElem hi]; rfl))⟩)
      ((HI.out.pure HU.out).pure hua) (by omega) hl2 HK.out hk1 hun (fun s hs=>by have:=((HUs.out.mem s).1 hs).1; rwa [HLN.out] at this) hrow)
     clear hrow hun hua hg hle
     go_wp2_with fail
     refine HF.out.mono ?_
     rintro e w4 ⟨rfl,hB4,hU4⟩
     have HB4:=Lib.hid hB4
     have HU4:=Lib.hid hU4
     have HSZ:=Lib.hid HU.out.size
     clear hB4 hU4 HF
     go_wp2
     go_ret
     refine ⟨_,u,rfl,HUs.out,.inr ⟨HNB.out,_,rfl,HSZ.out,?_⟩,(HU.out.alloc _).trans HU4.out (fun q hq => .inr (by simp at hq; have:=HSZ.out; omega))⟩
     have e:ofL many u (l:Int).toNat n=(List.range n).map fun s=>qF many u l s:=by
      unfold ofL
      rw [if_neg (by rw [HK.out]; omega),HTN.out]
     rw [e]
     exact HB4.out
end Go.Proofs.YtfkcdnaghndgfaaGreatDoor
namespace Go.Proofs.YtfkcdnaghndgfaaGreatDoor
open Go.RowKit
def ziD (s:Int):Int:=if s<0∨18<s then -1 else if s≤15 then 0 else if s=16 then 2 else if s=17 then 3 else 7
theorem Wx (s:Int) (w:World):Calls Tryz.prog 232 #[.int .i64 s] w fun e w'=>e = .returned (.int .i64 (ziD s))∧w=w':=by
 go_enter Tryz.func232,Tryz.ntmps232
 go_wp2
 all_goals go_returns
 all_goals (refine ⟨congrArg (fun z=>Ending.returned (.int .i64 z)) ?_,rfl⟩)
 all_goals (unfold ziD; (repeat' split)<;>first | rfl | (exfalso; omega) | (exfalso; simp_all; done) | (exfalso; simp_all; omega))
def Ke (s:Int):Int:=if s=18 then 11 else 3
theorem xn (s:Int) (w:World):Calls Tryz.prog 220 #[.int .i64 s] w fun e w'=>e = .returned (.int .i64 (Ke s))∧w=w':=by
 go_enter Tryz.func220,Tryz.ntmps220
 go_wp2
 all_goals go_returns
 all_goals (refine ⟨congrArg (fun z=>Ending.returned (.int .i64 z)) ?_,rfl⟩)
 all_goals (unfold Ke; (repeat' split)<;>first | rfl | (exfalso; omega) | (exfalso; simp_all; done) | (exfalso; simp_all; omega))
theorem vV:(Tryz.prog.info? 217).map (·.size)=some 3:=by kernel_rfl
theorem xW {P:Program} {fn:Func} {p u:Tmp} {ty:TypeId} (h:fn.results = #[.cell p ty,.tmp u]) (tmps:Array Value) (w:World) (g:Nat) (t:TypeId) (cs:Array Value) (fr:Nat×Nat) (d:TypeDesc) (v:Value)
 (hp:tmps.getD p undef = .pointer (some ⟨g,0,none⟩)) (hv:tmps.getD u undef=v) (hg:w.heap[g]? =some (.cells cs t fr))
 (hu:P.underlying ty=some d) (hd:(match d with | .struct _ | .array _ _=>true | _=>false)=true) (hi:(P.info? ty).map (·.size)=some cs.size) :
 (results fn tmps).run P w = .ok (.tuple #[.agg cs,v]) w:=by
 rw [results_cell_tmp h,hp,hv]
 simp [asAddr,run_loadVar_row w g t ty cs fr d hg hu hd hi,Result.andThen]
def vO (s:Nat):Nat:=if s=16 then 6 else if s=17 then 10 else 138
def runL' (s:Nat):Nat:=if s=18 then 11 else 3
def vy (s:Nat):Nat:=if s=16 then 2 else if s=17 then 3 else 7
def zas (s n:Nat) (w:World) (e:Ending) (w':World):Prop:=e = .returned (.tuple #[.agg #[.int .i64 (s:Nat),.int .i64 (vy s:Nat),.int .i64 ((min n (vO s)-runL' s:Nat):Int)],.int .i64 ((min n (vO s):Nat):Int)])∧Upd [] w w'
set_option maxRecDepth 100000 in
set_option maxHeartbeats 3200000 in
theorem vS (s n:Nat) (w:World) (hs:s=16∨s=17∨s=18) (hn:runL' s≤n) (hn2:n≤1000000) :
 Calls Tryz.prog 221 #[.int .i64 (s:Nat),.int .i64 (n:Nat)] w fun e w'=>zas s n w e w':=by
 obtain ⟨M,hM⟩ : ∃ M,vO s=M:=⟨_,rfl⟩
 obtain ⟨L,hL⟩ : ∃ L,runL' s=L:=⟨_,rfl⟩
 obtain ⟨b,hb⟩ : ∃ b,vy s=b:=⟨_,rfl⟩
 have hB:ziD (s:Nat)=(b:Int):=by rw [← hb]; rcases hs with rfl | rfl | rfl<;>decide
 have hLI:Ke (s:Nat)=(L:Int):=by rw [← hL]; rcases hs with rfl | rfl | rfl<;>decide
 obtain ⟨P,hP⟩ : ∃ P:Nat,2^b=P:=⟨_,rfl⟩
 have hPM:L+P-1=M∧3≤L∧L≤11∧4≤P∧P≤128∧b≤7:=by
  rw [← hM,← hL,← hP,← hb]
  rcases hs with rfl | rfl | rfl<;>decide
 have HBI:=Lib.hid (fun w'=>show Calls Tryz.prog 232 #[.int .i64 (s:Nat)] w' fun e w2=>e = .returned (.int .i64 (b:Int))∧w'=w2 by rw [← hB]; exact Wx _ w')
 have HLE:=Lib.hid (fun w'=>show Calls Tryz.prog 220 #[.int .i64 (s:Nat)] w' fun e w2=>e = .returned (.int .i64 (L:Int))∧w'=w2 by rw [← hLI]; exact xn _ w')
 have hpw:wrap64 ((2:Int)^b)=(P:Int):=by
  have:((2:Int)^b)=(P:Int):=by rw [← hP]; simp
  rw [this]
  unfold wrap64
  omega
 have HPW:=Lib.hid hpw
 unfold zas
 rw [hM,hL,hb]
 rw [hL] at hn
 clear hpw hB hLI hM hL hb hP
 obtain ⟨q,hq⟩ : ∃ q:Nat,min n M=q:=⟨_,rfl⟩
 have hqi:min (n:Int) (M:Int)=(q:Int):=by omega
 have hLq:L≤q:=by omega
 rw [hq]
 have hw1:IntKind.i64.wrap ((L:Int)+(P:Int))=(L:Int)+(P:Int):=IntWalk.i64_in _ (by omega)
 have hw2:IntKind.i64.wrap ((L:Int)+(P:Int)-1)=(M:Int):=by rw [IntWalk.i64_in _ (by omega)]; omega
 have hw3:IntKind.i64.wrap ((q:Int)-(L:Int))=((q-L:Nat):Int):=by rw [IntWalk.i64_in _ (by omega)]; omega
 have hb64:(b:Int)<64:=by omega
 have HQ:=Lib.hid hq
 clear hq hPM
 have hpw:=HPW.out
 go_enter Tryz.func221,Tryz.ntmps221
 go_wp2_with fail
 refine (HBI.out _).mono ?_
 rintro e w1 ⟨rfl,rfl⟩
 go_wp2
 go_quiet ((go_at_call 220; exact Calls.quiet_of_same ((HLE.out _).mono fun e w' ⟨he,hw⟩=>⟨he,hw.symm⟩)))
 go_wp2_with fail
 refine (HLE.out _).mono ?_
 rintro e w2 ⟨rfl,rfl⟩
 have hB:=(Blk.new w [.int .i64 0,.int .i64 0,.int .i64 0] 217).drewN nq
 have hU:=((Upd.refl [] w).alloc (.cells #[.int .i64 0,.int .i64 0,.int .i64 0] 217)).drewN nq
 have fA:=hB.frz
 have cA:=hB.all
 have HB:=Lib.hid hB
 have HU:=Lib.hid hU
 clear hB hU hpw
 go_wp2
 have hB9:=((HB.out.set 0 (.int .i64 (s:Nat))).set 1 (.int .i64 (b:Nat))).set 2 (.int .i64 ((q-L:Nat):Int))
 refine bodyPost_ret (xW rfl _ _ w.heap.size _ _ _ _ (.int .i64 (q:Nat)) (by simp [Act.put]) (by simp [Act.put]) hB9 Tryz.underlying217 rfl (by rw [vV]; rfl)) (by simp [Act.put]) ⟨?_,?_⟩
 · rfl
 · exact ((HU.out.setCell (.inr (Nat.le_refl _)) _).setCell (.inr (Nat.le_refl _)) _).setCell (.inr (Nat.le_refl _)) _
end Go.Proofs.YtfkcdnaghndgfaaGreatDoor
