/- slices.SortFunc of this program, laid (printed by the shelf's plain mode). -/
import Derived.Shelf.SlSortCmp.NoneTotal
import Derived.Test.YtfkcdnaghndgfaaGreatDoorProg
import Derived.Test.YtfkcdnaghndgfaaGreatDoorQBD
import Derived.Test.YtfkcdnaghndgfaaGreatDoorQAC
import Derived.ArgAppend
import Derived.Deep.QuietTactic
import Derived.BigQuiet
import Derived.BigRegion
set_option linter.unusedVariables false
set_option linter.unusedSimpArgs false
set_option linter.unusedSectionVars false
namespace Go.Proofs
open Go.Shelf
def YtfkcdnaghndgfaaGreatDoor.sortL_ren:Go.Shelf.Ren:=⟨fun | 6=>193 | 15=>223 | 14=>222 | 28=>241 | 29=>242 | 20=>233 | 21=>234 | 22=>235 | 23=>236 | 24=>237 | 25=>238 | 26=>239 | 27=>240 | 46=>246 | 47=>247 | 48=>248 | 49=>249 | 50=>250 | 57=>251 | n=>n,fun | 22=>98 | 24=>3 | 25=>142 | 3=>3 | 39=>113 | 0=>0 | 53=>22 | 55=>82 | 4=>4 | 46=>274 | 45=>273 | 50=>164 | 5=>5 | 9=>9 | 66=>288 | 70=>292 | 76=>294 | 77=>170 | n=>n,fun | n=>n⟩
theorem YtfkcdnaghndgfaaGreatDoor.sortL:Go.Proofs.SlLaysF.n6 Tryz.prog YtfkcdnaghndgfaaGreatDoor.sortL_ren := {
 mixed:=by kernel_rfl
 f6:=⟨Tryz.f193.name,by decide,Tryz.func193.trans (congrArg some (by kernel_rfl))⟩
 f14:=⟨Tryz.f222.name,by decide,Tryz.func222.trans (congrArg some (by kernel_rfl))⟩
 f15:=Tryz.func223.trans (congrArg some (by kernel_rfl))
 f20:=⟨Tryz.f233.name,by decide,Tryz.func233.trans (congrArg some (by kernel_rfl))⟩
 f21:=⟨Tryz.f234.name,by decide,Tryz.func234.trans (congrArg some (by kernel_rfl))⟩
 f22:=⟨Tryz.f235.name,by decide,Tryz.func235.trans (congrArg some (by kernel_rfl))⟩
 f23:=⟨Tryz.f236.name,by decide,Tryz.func236.trans (congrArg some (by kernel_rfl))⟩
 f24:=⟨Tryz.f237.name,by decide,Tryz.func237.trans (congrArg some (by kernel_rfl))⟩
 f25:=⟨Tryz.f238.name,by decide,Tryz.func238.trans (congrArg some (by kernel_rfl))⟩
 f26:=⟨Tryz.f239.name,by decide,Tryz.func239.trans (congrArg some (by kernel_rfl))⟩
 f27:=⟨Tryz.f240.name,by decide,Tryz.func240.trans (congrArg some (by kernel_rfl))⟩
 f28:=Tryz.func241.trans (congrArg some (by kernel_rfl))
 f29:=Tryz.func242.trans (congrArg some (by kernel_rfl))
 f46:=⟨Tryz.f246.name,by decide,Tryz.func246.trans (congrArg some (by kernel_rfl))⟩
 f47:=Tryz.func247.trans (congrArg some (by kernel_rfl))
 f48:=Tryz.func248.trans (congrArg some (by kernel_rfl))
 f49:=⟨Tryz.f249.name,by decide,Tryz.func249.trans (congrArg some (by kernel_rfl))⟩
 f50:=⟨Tryz.f250.name,by decide,Tryz.func250.trans (congrArg some (by kernel_rfl))⟩
 f57:=⟨Tryz.f251.name,by decide,Tryz.func251.trans (congrArg some (by kernel_rfl))⟩
 t0:=Tryz.underlying0
 a0:=Tryz.isAgg0
 z0:=Tryz.sizeOf0
 v0:=Tryz.zeroValue0
 t3:=Tryz.underlying3
 a3:=Tryz.isAgg3
 z3:=Tryz.sizeOf3
 v3:=Tryz.zeroValue3
 t4:=Tryz.underlying4
 a4:=Tryz.isAgg4
 z4:=Tryz.sizeOf4
 v4:=Tryz.zeroValue4
 t5:=Tryz.underlying5
 a5:=Tryz.isAgg5
 z5:=Tryz.sizeOf5
 v5:=Tryz.zeroValue5
 t9:=Tryz.underlying9
 a9:=Tryz.isAgg9
 z9:=Tryz.sizeOf9
 v9:=Tryz.zeroValue9
 t22:=Tryz.underlying98
 a22:=Tryz.isAgg98
 z22:=Tryz.sizeOf98
 v22:=Tryz.zeroValue98
 a24:=Tryz.isAgg3
 z24:=Tryz.sizeOf3
 t25:=Tryz.underlying142
 a25:=Tryz.isAgg142
 z25:=Tryz.sizeOf142
 v25:=Tryz.zeroValue142
 t39:=Tryz.underlying113
 a39:=Tryz.isAgg113
 z39:=Tryz.sizeOf113
 v39:=Tryz.zeroValue113
 t45:=Tryz.underlying273
 a45:=Tryz.isAgg273
 z45:=Tryz.sizeOf273
 v45:=Tryz.zeroValue273
 t46:=Tryz.underlying274
 a46:=Tryz.isAgg274
 z46:=Tryz.sizeOf274
 v46:=Tryz.zeroValue274
 t50:=Tryz.underlying164
 a50:=Tryz.isAgg164
 z50:=Tryz.sizeOf164
 v50:=Tryz.zeroValue164
 t53:=Tryz.underlying22
 a53:=Tryz.isAgg22
 z53:=Tryz.sizeOf22
 v53:=Tryz.zeroValue22
 t55:=Tryz.underlying82
 a55:=Tryz.isAgg82
 z55:=Tryz.sizeOf82
 v55:=Tryz.zeroValue82
 t66:=Tryz.underlying288
 a66:=Tryz.isAgg288
 z66:=Tryz.sizeOf288
 v66:=Tryz.zeroValue288
 t70:=Tryz.underlying292
 a70:=Tryz.isAgg292
 z70:=Tryz.sizeOf292
 v70:=Tryz.zeroValue292
 t76:=Tryz.underlying294
 a76:=Tryz.isAgg294
 z76:=Tryz.sizeOf294
 v76:=Tryz.zeroValue294
 t77:=Tryz.underlying170
 a77:=Tryz.isAgg170
 z77:=Tryz.sizeOf170
 v77:=Tryz.zeroValue170 }
end Go.Proofs
namespace Go.Proofs.YtfkcdnaghndgfaaGreatDoor
open Go.RowKit
def xp (many:List Int) (n:Nat):List Nat:=(List.range n).filter fun i=>decide (0<many.getD i 0)
theorem zdx (many:List Int) (n:Nat):xp many (n+1)=xp many n++if 0<many.getD n 0 then [n] else []:=by
 unfold xp
 rw [List.range_succ,List.filter_append]
 by_cases h:0<many.getD n 0
 · rw [if_pos h,List.filter_cons_of_pos (by simpa using h)]; rfl
 · rw [if_neg h,List.filter_cons_of_neg (by simpa using h)]; rfl
theorem xM (many:List Int) (n i:Nat):i∈xp many n↔i<n∧0<many.getD i 0:=by
 unfold xp
 rw [List.mem_filter,List.mem_range]
 simp
theorem zal (many:List Int) (n:Nat):(xp many n).length≤n:=by
 have:=List.length_filter_le (fun i=>decide (0<many.getD i 0)) (List.range n)
 rw [List.length_range] at this
 exact this
theorem zg7 (many:List Int) (x y:Nat):cfN many x y<0↔Ahead many x y:=by
 unfold cfN orN Ahead
 rcases JM (yr (many.getD x 0)) (yr (many.getD y 0)) with ⟨h,e⟩ | ⟨h,e⟩ | ⟨h,e⟩
 · rw [e]
   rw [if_neg (by omega)]
   constructor
   · intro _; exact .inl h
   · intro _; omega
 · rw [e]
   rw [if_neg (by omega)]
   constructor
   · intro k; omega
   · intro k; omega
 · rw [e,if_pos rfl]
   rcases JM x y with ⟨h2,e2⟩ | ⟨h2,e2⟩ | ⟨h2,e2⟩<;>rw [e2]<;>constructor<;>intro k<;>omega
def cfF (many:List Int) (m:Nat) (x y:Fin (m+1)):Int:=cfN many x.1 y.1
theorem ltF (many:List Int) (m:Nat) (x y:Fin (m+1)):ltOf (cfF many m) x y=true↔Ahead many x.1 y.1:=by
 unfold ltOf cfF
 rw [decide_eq_true_eq]
 exact zg7 many x.1 y.1
theorem qx (many:List Int) (m:Nat) (x y:Fin (m+1)):ltOf (cfF many m) x y=false ↔ ¬ Ahead many x.1 y.1:=by
 rw [← ltF]
 cases ltOf (cfF many m) x y<;>simp
theorem zdQ {many:List Int} {a b:Nat} (h1 : ¬ Ahead many a b) (h2:a≠b):Ahead many b a:=by
 unfold Ahead at *
 omega
theorem zjb (many:List Int) (m:Nat):Sort.SWO (ltOf (cfF many m)) where
 irrefl x:=by rw [qx]; exact Ahead.irrefl
 trans x y z h1 h2:=by rw [ltF] at *; exact h1.trans h2
 ntrans x y z h1 h2:=by
  rw [qx] at *
  unfold Ahead at *
  omega
theorem zjd (many:List Int) (m:Nat) (x y:Fin (m+1)) (h1:ltOf (cfF many m) x y=false) (h2:ltOf (cfF many m) y x=false):x=y:=by
 rw [qx] at *
 apply Fin.ext
 unfold Ahead at *
 omega
theorem Zn (many:List Int) (m:Nat) (hm:many.length=m+1) (d:List (Fin (m+1))) (hd:d.map Fin.val=xp many (m+1)):IsUsed many many.length ((d.mergeSort fun x y=>!(ltOf (cfF many m)) y x).map Fin.val):=by
 have hp:=List.mergeSort_perm d (fun x y=>!(ltOf (cfF many m)) y x)
 constructor
 · intro i
   rw [((hp.map Fin.val).mem_iff),hd,xM,hm]
 · have hs:=List.pairwise_mergeSort (le:=fun x y=>!(ltOf (cfF many m)) y x) (fun a b c h1 h2=>by
    simp only [Bool.not_eq_true'] at *
    rw [qx] at *
    unfold Ahead at *
    omega) (fun a b=>by
    simp only [Bool.or_eq_true,Bool.not_eq_true']
    rw [qx,qx]
    unfold Ahead
    omega) d
   have hn:(d.mergeSort fun x y=>!(ltOf (cfF many m)) y x).Nodup:=by
    rw [hp.nodup_iff]
    have:(d.map Fin.val).Nodup:=by rw [hd]; exact List.nodup_range.filter _
    exact List.Pairwise.of_map Fin.val (fun a b h e=>h (by rw [e])) this
   rw [List.pairwise_map]
   refine (hs.and hn).imp ?_
   intro a b ⟨h1,h2⟩
   simp only [Bool.not_eq_true'] at h1
   rw [qx] at h1
   exact zdQ h1 (fun e=>h2 (Fin.ext e.symm))
theorem ziR (many:List Int) (a:Option Addr) (n cap bx:Nat) (w0 w:World) (v:Value) (hB:Blk w bx [.slice a n cap] 98) (hI:IntsIn w0 a n many) (hn:n≤1000000) (hu:Upd [] w0 w) (hO:OwnX w0 w 3 v (zg (xp many n))) :
 Calls Tryz.prog 193 #[v,.func (.func 194) #[] #[.pointer (some ⟨bx,0,none⟩)]] w fun e w'=>e = .returned (.tuple #[]) ∧ ∃ u,IsUsed many many.length u∧OwnX w0 w' 3 v (zg u)∧Upd [] w0 w':=by
 by_cases hd:xp many n=[]
 · rw [hd] at hO
   obtain ⟨a',c',rfl⟩:=hO.form
   have h:=AnyF.slices_SortFunc_none (P:=Tryz.prog) (ρ:=YtfkcdnaghndgfaaGreatDoor.sortL_ren) { YtfkcdnaghndgfaaGreatDoor.sortL with } a' c' (.func (.func 194) #[] #[.pointer (some ⟨bx,0,none⟩)]) w
   change Calls Tryz.prog 193 _ _ _ at h
   refine h.mono ?_
   rintro e w' ⟨rfl,rfl⟩
   refine ⟨rfl,[],⟨fun i=>?_,List.Pairwise.nil⟩,hO,hu⟩
   have:=xM many n i
   rw [hd,← hI.len] at this
   exact this
 · obtain ⟨m,hm⟩ : ∃ m,n=m+1:=by
    cases n with
    | zero=>exact absurd rfl hd
    | succ m=>exact ⟨m,rfl⟩
   subst hm
   have hlen:many.length=m+1:=hI.len
   have hdl : ∃ d:List (Fin (m+1)),d.map Fin.val=xp many (m+1):=⟨(xp many (m+1)).attach.map fun x=>⟨x.1,((xM _ _ _).1 x.2).1⟩,by simp⟩
   obtain ⟨d,hdm⟩:=hdl
   have henc:zg (xp many (m+1))=d.map fun x:Fin (m+1)=>Value.int .i64 (x.1:Int):=by rw [← hdm]; simp [zg]
   have hk:d.length=(zg (xp many (m+1))).length:=by rw [henc]; simp
   have hpos:0<(zg (xp many (m+1))).length:=by
    rw [zn]
    cases h:xp many (m+1) with
    | nil=>exact absurd h hd
    | cons=>simp
   obtain ⟨blk,c',rfl,hbl,_⟩:=hO.1.form' hpos
   have hblk:w0.heap.size≤blk:=hO.2 blk rfl
   have hR:=hO.1
   obtain ⟨K,hK⟩ : ∃ K,(zg (xp many (m+1))).length=K:=⟨_,rfl⟩
   rw [hK] at hR hk hpos ⊢
   rw [henc] at hR
   have hne:bx≠blk:=fun e=>hR.neB hB (by decide) (by rw [e]; rfl)
   have ha : ∀ b off,a=some ⟨b,off,none⟩→b∉[blk]:=by
    intro b off e
    obtain ⟨b',off',e',hc,_⟩:=hI.cell 0 (by omega)
    rw [e] at e'
    injection e' with e'
    injection e' with e1
    have:=World.block_lt_of_cell? w0 _ hc
    simp at this ⊢
    omega
   have h:=Any.slices_SortFunc_total (P:=Tryz.prog) (ρ:=YtfkcdnaghndgfaaGreatDoor.sortL_ren) YtfkcdnaghndgfaaGreatDoor.sortL (fun x:Fin (m+1)=>Value.int .i64 (x.1:Int)) (fun x=>by simp [Value.oneCell']) (cfF many m) (zjb many m) 194 #[.pointer (some ⟨bx,0,none⟩)] blk 0 c' d.toArray w (enters_of Tryz.func194 (by kernel_rfl) rfl)
    (fun k os dk hs x y=>by
     refine (WL many a (m+1) cap bx x.1 y.1 _ ((hB.upd (QT _ w blk 0 k dk os) (by simpa using hne)).cell 0 rfl) ((hI.pure hu).upd (QT _ w blk 0 k dk os) ha) x.2 y.2 hn).mono ?_
     rintro e w' ⟨rfl,q,os',rfl⟩
     exact ⟨rfl,q,os',rfl⟩)
    (fun j hj=>by
     have hj2:j<d.length:=by simpa using hj
     refine ⟨?_,by rw [Nat.zero_add]; exact hR.frz j⟩
     rw [Nat.zero_add,hR.cell j (u := .int .i64 (d[j].1:Int)) (by simp [hj2])]
     rw [getElem!_pos _ j hj]
     simp)
    hbl (by have h1:=zal many (m+1); rw [zn] at hK; simp; omega) (zjd many m)
   change Calls Tryz.prog 193 _ _ _ at h
   rw [List.size_toArray,hk] at h
   refine h.mono ?_
   rintro e w' ⟨rfl,q,os,rfl⟩
   refine ⟨rfl,(d.mergeSort fun x y=>!(ltOf (cfF many m)) y x).map Fin.val,Zn many m hlen d hdm,⟨?_,hO.2⟩,hu.trans (QT _ w blk 0 q _ os) (fun k hk => .inr (by simp at hk; omega))⟩
   have hl2:(d.mergeSort fun x y=>!(ltOf (cfF many m)) y x).length=K:=by rw [List.length_mergeSort,hk]
   have hs:=ze0 (fun x:Fin (m+1)=>Value.int .i64 (x.1:Int)) w blk q _ c' 3 (d.mergeSort fun x y=>!(ltOf (cfF many m)) y x) _ os hl2 hR
   have e2:zg ((d.mergeSort fun x y=>!(ltOf (cfF many m)) y x).map Fin.val)=(d.mergeSort fun x y=>!(ltOf (cfF many m)) y x).map (fun x:Fin (m+1)=>Value.int .i64 (x.1:Int)):=by simp [zg]
   have e3:(zg ((d.mergeSort fun x y=>!(ltOf (cfF many m)) y x).map Fin.val)).length=K:=by rw [e2,List.length_map,hl2]
   rw [e2] at e3 ⊢
   rw [e3]
   exact hs
theorem ziX (w:World) (v:Value) (e:TypeId) : ∀ j u,[v][j]? =some u→(w.alloc (.cells #[v] e)).cell? ((⟨w.heap.size,0,none⟩:Addr).add j)=some u:=World.news_of_block (cs := #[v]) (t:=e) (fr:=(0,0)) (heap_alloc_new _ _)
set_option maxRecDepth 100000 in
set_option maxHeartbeats 6400000 in
theorem KL (many:List Int) (a:Option Addr) (n cap:Nat) (w:World) (hI:IntsIn w a n many) (hn:n≤1000000) :
 Calls Tryz.prog 160 #[.slice a n cap] w fun e w' => ∃ v u,e = .returned v∧IsUsed many many.length u∧OwnX w w' 3 v (zg u)∧Upd [] w w':=by
 obtain ⟨i0,hi,hz0,hz1,hz2⟩:=info_parts qJ
 have HI:=Lib.hid hI
 have HSO:=Lib.hid (fun bx w1 v h1 h2 h3=>ziR many a n cap bx w w1 v h1 hI hn h2 h3)
 have HLN:=Lib.hid hI.len
 clear hI
 go_enter Tryz.func160,Tryz.ntmps160
 go_wp2
 go_loopg [2,7] 1000000 (fun gg s2 s7 wr => ∃ i:Nat,i≤n∧gg=1000000-i∧s7 = .int .i64 (i:Nat)∧Hid (OwnX w wr 3 s2 (zg (xp many i)))∧Hid (Upd [] w wr)∧Hid (Blk wr w.heap.size [.slice a n cap] 98))
 case atStart=>exact ⟨0,by omega,rfl,rfl,Lib.hid (OwnX.nil _ _ _),Lib.hid (((Upd.refl _ _).alloc _)),Lib.hid (Blk.new w _ _)⟩
 case round =>
  obtain ⟨i,hin,rfl,rfl,HO,HU,HB⟩:=hrel
  by_cases hc:i<n
  · have hcz:(i:Int)<(n:Int):=by omega
    have hil:i<many.length:=by rw [HLN.out]; exact hc
    obtain ⟨b,off,rfl,hc1,r1,r2⟩:=(HI.out.pure HU.out).cell i hil
    have HRS:Hid (xp many (i+1)=xp many i++if 0<many[i] then [i] else []):=Lib.hid (by rw [zdx]; simp [List.getD_eq_getElem?_getD,hil])
    generalize many[i]=m at *
    have hbx:=HB.out.cell 0 rfl
    clear hil
    obtain ⟨va,vc,rfl⟩:=HO.out.form
    obtain ⟨fl,hfl⟩ : ∃ fl,(zg (xp many i)).length=fl:=⟨_,rfl⟩
    rw [hfl] at HO ⊢
    have HFL:=Lib.hid hfl
    have hfb:fl≤1000000:=by rw [← hfl,zn]; have:=zal many i; omega
    have hw1:IntKind.i64.wrap ((i:Int)+1)=((i+1:Nat):Int):=by rw [IntWalk.i64_in _ (by omega)]; rfl
    clear hfl
    by_cases hp:0<m
    · have HR2:Hid (zg (xp many (i+1))=zg (xp many i)++[.int .i64 (i:Int)]):=Lib.hid (by rw [HRS.out,if_pos hp]; simp [zg])
      have hRz:=HO.out.1.alloc (.cells #[.int .i64 (i:Int)] 3)
      rw [HFL.out] at hRz
      clear HRS
      go_wp2_with (at_builtin; refine zz _ rfl _ _ 98 rfl 3 i0 _ 1 8 Tryz.underlying98 hi hz0 hz1 hz2 rfl (by omega) (.slice va fl vc) fl _ rfl hRz ⟨wr.heap.size,0,none⟩ 1 1 [.int .i64 (i:Int)] rfl rfl (ziX _ _ _) (by simp [Value.oneCell']) (by unfold maxLen; omega) (by omega) ?_)
      intro v4 w4 hR4 hU4 hT4
      have hap:=HO.out.app HU.out ((Upd.refl [] wr).alloc (.cells #[.int .i64 (i:Int)] 3)) (ys:=[.int .i64 (i:Int)]) (by rw [HFL.out]; exact hR4) hU4 hT4
      have hb4:=(HB.out.alloc (.cells #[.int .i64 (i:Int)] 3)).upd hU4 (fun hm=>(HO.out.1.neB HB.out (by decide)) (by simpa using hm))
      have HAP:=Lib.hid hap
      have HB4:=Lib.hid hb4
      clear hR4 hU4 hT4 hap hb4 hRz
      go_wp2
      go_roundg (1000000-(i+1))
      · exact ⟨i+1,by omega,rfl,by first | rfl | go_num,Lib.hid (by rw [HR2.out]; exact HAP.out.1),Lib.hid HAP.out.2,HB4⟩
      · omega
    · have HR2:Hid (xp many (i+1)=xp many i):=Lib.hid (by rw [HRS.out,if_neg hp,List.append_nil])
      clear HRS
      go_wp2
      go_roundg (1000000-(i+1))
      · exact ⟨i+1,by omega,rfl,by first | rfl | go_num,Lib.hid (by rw [HR2.out]; exact HO.out),HU,HB⟩
      · omega
  · have hcz : ¬ (i:Int)<(n:Int):=by omega
    obtain rfl:i=n:=by omega
    go_wp2_with fail
    refine (HSO.out _ _ _ HB.out HU.out HO.out).mono ?_
    rintro e w1 ⟨rfl,u,h1,h2,h3⟩
    have H1:=Lib.hid h1
    have H2:=Lib.hid h2
    have H3:=Lib.hid h3
    clear h1 h2 h3
    go_wp2
    go_ret
    exact ⟨_,u,rfl,H1.out,H2.out,H3.out⟩
end Go.Proofs.YtfkcdnaghndgfaaGreatDoor
namespace Go.Proofs.YtfkcdnaghndgfaaGreatDoor
open Go.RowKit
theorem zcc (n:Nat) (hn:n≤1000000) (w:World):(Instr.makeSlice 98 (.int .i64 (n:Int)) (.int .i64 (n:Int))).run Tryz.prog w = .ok (.slice (some ⟨w.heap.size,0,none⟩) n n) (w.alloc (.cells (zg (List.replicate n 0)).toArray 3)):=by
 obtain ⟨i0,hi,hz0,hz1,hz2⟩:=info_parts qJ
 have h:=run_make (P:=Tryz.prog) w 98 3 i0 _ Tryz.underlying98 hi hz0 .i64 .i64 (n:Int) (n:Int) (by omega) (by omega) (by rw [hz2]; omega) (by omega)
 rw [h,hz1]
 have e:madeCells (Value.int .i64 0).cells ((n:Int).toNat*1)=(zg (List.replicate n 0)).toArray:=by
  apply Array.toList_inj.1
  rw [show (Value.int .i64 0).cells = #[Value.int .i64 0] from rfl,toList_madeCells_one]
  simp [zg]
 rw [e]
 rfl
def ofL (many:List Int) (u:List Nat) (L n:Nat):List Nat:=if u.length=1 then (List.replicate n 0).set (u.getD 0 0) 1 else (List.range n).map fun s=>qt many u L s
def zaI (L:Int) (n:Nat) (u:List Nat):Prop:=L<1∨15<L∨300<n∨2^L.toNat<u.length
def zif (many:List Int) (u:List Nat) (L:Int) (n:Nat) (w:World) (v:Value) (w':World):Prop :=
 (zaI L n u∧v = .slice none 0 0)∨(¬ zaI L n u ∧ ∃ ob,v = .slice (some ⟨ob,0,none⟩) n n∧w.heap.size≤ob∧Blk w' ob (zg (ofL many u L.toNat n)) 3)
def OfP (many:List Int) (L:Int) (n:Nat) (w:World) (e:Ending) (w':World):Prop := ∃ v u,e = .returned v∧IsUsed many many.length u∧zif many u L n w v w'∧Upd [] w w'
theorem zhN (many:List Int) : ∃ u,IsUsed many many.length u:=by
 cases h:many.length with
 | zero=>exact ⟨[],IsUsed.nil many⟩
 | succ m =>
   have hdl : ∃ d:List (Fin (m+1)),d.map Fin.val=xp many (m+1):=⟨(xp many (m+1)).attach.map fun x=>⟨x.1,((xM _ _ _).1 x.2).1⟩,by simp⟩
   obtain ⟨d,hdm⟩:=hdl
   have:=Zn many m h d hdm
   rw [h] at this
   exact ⟨_,this⟩
set_option maxRecDepth 100000 in
set_option maxHeartbeats 6400000 in
theorem zb1 (many:List Int) (a:Option Addr) (n cap:Nat) (L:Int) (w:World) (hI:IntsIn w a n many) (hn:n≤1000000) :
 Calls Tryz.prog 157 #[.slice a n cap,.int .i64 L] w fun e w'=>OfP many L n w e w':=by
 have HUSD:=Lib.hid (fun w1 (h:Upd [] w w1)=>KL many a n cap w1 (hI.pure h) hn)
 have HI:=Lib.hid hI
 obtain ⟨u0,hu0⟩:=zhN many
 have HU0:=Lib.hid hu0
 have HLN:=Lib.hid hI.len
 clear hI hu0
 by_cases h1:L<1
 · go_enter Tryz.func157,Tryz.ntmps157
   go_wp2
   go_ret
   exact ⟨_,u0,rfl,HU0.out,.inl ⟨.inl h1,rfl⟩,Upd.refl _ _⟩
 by_cases h2:15<L
 · go_enter Tryz.func157,Tryz.ntmps157
   go_wp2
   go_ret
   exact ⟨_,u0,rfl,HU0.out,.inl ⟨.inr (.inl h2),rfl⟩,Upd.refl _ _⟩
 by_cases h3:300<n
 · have h3z:(300:Int)<(n:Int):=by omega
   go_enter Tryz.func157,Tryz.ntmps157
   go_wp2
   go_ret
   exact ⟨_,u0,rfl,HU0.out,.inl ⟨.inr (.inr (.inl h3)),rfl⟩,Upd.refl _ _⟩
 have h3z : ¬ (300:Int)<(n:Int):=by omega
 have hmk:=zcc n hn
 obtain ⟨l,rfl⟩ : ∃ l:Nat,L=(l:Int):=⟨L.toNat,by omega⟩
 have hl1:1≤l:=by omega
 have hl2:l≤15:=by omega
 obtain ⟨P,hP⟩ : ∃ P:Nat,2^l=P:=⟨_,rfl⟩
 have hPb:P≤32768:=by
  have:=Nat.pow_le_pow_right (n:=2) (by omega) hl2
  omega
 have hpw:wrap64 ((2:Int)^l)=(P:Int):=by
  have:((2:Int)^l)=(P:Int):=by rw [← hP]; simp
  rw [this]
  unfold wrap64
  omega
 have HPP:=Lib.hid hP
 clear hP
 go_enter Tryz.func157,Tryz.ntmps157
 go_wp2_with fail
 refine (HUSD.out _ (Upd.refl _ _)).mono ?_
 rintro e w1 ⟨v1,u,rfl,hu,hO,hU⟩
 obtain ⟨a1,c1,rfl⟩:=hO.form
 obtain ⟨k,hk⟩ : ∃ k,(zg u).length=k:=⟨_,rfl⟩
 rw [hk] at hO ⊢
 have HK:Hid (u.length=k):=Lib.hid (by rw [← hk,zn])
 have HUs:=Lib.hid hu
 have HR1:Hid (Row w1 3 1 (.slice a1 k c1) k (zg u)):=Lib.hid (by have:=hO.1; rwa [hk] at this)
 have HU:=Lib.hid hU
 clear hk hu hO hU HUSD HU0
 have HTN:Hid ((l:Int).toNat=l):=Lib.hid (by omega)
 by_cases hb:P<k
 · have hbz:(P:Int)<(k:Int):=by omega
   go_wp2
   go_ret
   exact ⟨_,u,rfl,HUs.out,.inl ⟨.inr (.inr (.inr (by rw [HTN.out,HPP.out,HK.out]; exact hb))),rfl⟩,HU.out.alloc _⟩
 have hbz : ¬ (P:Int)<(k:Int):=by omega
 have HNB:Hid (¬ zaI (l:Int) n u):=Lib.hid (by
  unfold zaI
  rw [HTN.out,HPP.out,HK.out]
  omega)
 rcases Nat.lt_or_ge k 1 with hk0 | hk0
 · obtain rfl:k=0:=by omega
   go_wp2
   go_ret
   refine ⟨_,u,rfl,HUs.out,.inr ⟨HNB.out,_,rfl,HU.out.size,?_⟩,HU.out.alloc _⟩
   have hu:u=[]:=List.eq_nil_of_length_eq_zero HK.out
   have e:ofL many u (l:Int).toNat n=List.replicate n 0:=by
    subst hu
    unfold ofL
    rw [if_neg (by simp)]
    apply List.ext_getElem
    · simp
    · intro i h1 h2
      simp [qt,jA]
   rw [e]
   exact Blk.new w1 _ _
 · rcases Nat.lt_or_ge k 2 with hk1 | hk1
   · obtain rfl:k=1:=by omega
     have hu1:u.length=1:=HK.out
     have hlt:u[0]<n:=by have:=((HUs.out.mem u[0]).1 (List.getElem_mem (by omega))).1; rwa [HLN.out] at this
     obtain ⟨g,c2,hv,hg,hle⟩:=HR1.out.form' (by omega)
     cases hv
     have hc1:w1.cell? ⟨g,0,none⟩=some (.int .i64 (u[0]:Nat)):=HR1.out.cell 0 (by rw [zg,List.getElem?_map,List.getElem?_eq_getElem (by omega)]; rfl)
     have HE:Hid (ofL many u (l:Int).toNat n=(List.replicate n 0).set u[0] 1):=Lib.hid (by
      unfold ofL
      rw [if_pos hu1]
      simp [List.getD_eq_getElem?_getD,hu1])
     generalize u[0]=s at *
     have hsz:(s:Int)<(n:Int):=by omega
     have hb1:=Blk.new w1 (zg (List.replicate n 0)) 3
     have hf1:=hb1.frz s
     have hcc:=hb1.cell s (v := .int .i64 0) (by simp [zg,hlt])
     have hcg:(w1.alloc (.cells (zg (List.replicate n 0)).toArray 3)).cell? ⟨g,0,none⟩=some (.int .i64 (s:Nat)):=((Upd.refl [] w1).alloc (.cells (zg (List.replicate n 0)).toArray 3)).at hg (by simp) 0 |>.trans hc1
     have HB1:=Lib.hid hb1
     have HU2:=Lib.hid (HU.out.alloc (.cells (zg (List.replicate n 0)).toArray 3))
     have HSZ:=Lib.hid HU.out.size
     clear hb1 hu1 hg hc1 HK HR1 hle
     go_wp2
     go_ret
     refine ⟨_,u,rfl,HUs.out,.inr ⟨HNB.out,_,rfl,HSZ.out,?_⟩,HU.out.alloc _⟩
     rw [HE.out,xj]
     exact Blk.new w1 _ _
   · have hk1z : ¬ k=1:=by omega
     have hk1y:(1:Int)<(k:Int):=by omega
     have hrow:2*k-2≤(zW (lvs many u) l).length:=by
      have:=(VL many u l HUs.out.srt (by rw [HK.out]; exact hk1) (by rw [HK.out,HPP.out]; omega)).1
      rwa [HK.out] at this
     have hun:k≤n:=by
      have:=HUs.out.le
      rw [HK.out,HLN.out] at this
      exact this
     have hua:Upd [] w1 (w1.alloc (.cells (zg (List.replicate n 0)).toArray 3)):=(Upd.refl _ _).alloc _
     obtain ⟨g,c2,hv,hg,hle⟩:=HR1.out.form' (by omega)
     cases hv
     have HF:=Lib.hid (zgG many u l n n w1.heap.size k c1 cap (some ⟨g,0,none⟩) a _ (Blk.new w1 (zg (List.replicate n 0)) 3) (fun i hi=>⟨g,0,rfl,by
      rw [Nat.zero_add]
      exact (hua.at hg (by simp) i).trans (HR1.out.cell i (by rw [zg,List.getElem?_map,List.getElem?_eq_getElem hi]; rfl))⟩)
      ((HI.out.pure HU.out).pure hua) (by omega) hl2 HK.out hk1 hun (fun s hs=>by have:=((HUs.out.mem s).1 hs).1; rwa [HLN.out] at this) hrow)
     clear hrow hun hua hg hle
     go_wp2_with fail
     refine HF.out.mono ?_
     rintro e w4 ⟨rfl,hB4,hU4⟩
     have HB4:=Lib.hid hB4
     have HU4:=Lib.hid hU4
     have HSZ:=Lib.hid HU.out.size
     clear hB4 hU4 HF
     go_wp2
     go_ret
     refine ⟨_,u,rfl,HUs.out,.inr ⟨HNB.out,_,rfl,HSZ.out,?_⟩,(HU.out.alloc _).trans HU4.out (fun q hq => .inr (by simp at hq; have:=HSZ.out; omega))⟩
     have e:ofL many u (l:Int).toNat n=(List.range n).map fun s=>qt many u l s:=by
      unfold ofL
      rw [if_neg (by rw [HK.out]; omega),HTN.out]
     rw [e]
     exact HB4.out
end Go.Proofs.YtfkcdnaghndgfaaGreatDoor
namespace Go.Proofs.YtfkcdnaghndgfaaGreatDoor
open Go.RowKit
structure Tok where
 byte:Nat
 long:Int
 back:Int
def Tok.cs (t:Tok):List Value:=[.int .u8 (t.byte:Nat),.int .i64 t.long,.int .i64 t.back]
structure TokIn (w:World) (a:Option Addr) (len:Nat) (l:List Tok):Prop where
 len:l.length=len
 cell : ∀ i (h:i<l.length),∃ b off,a=some ⟨b,off,none⟩∧(w.cell? ⟨b,off+i*3,none⟩=some (.int .u8 (l[i].byte:Nat))∧w.cell? ⟨b,off+i*3+1,none⟩=some (.int .i64 l[i].long)∧w.cell? ⟨b,off+i*3+2,none⟩=some (.int .i64 l[i].back)) ∧
  l[i].byte<256∧(-9223372036854775808≤l[i].long∧l[i].long≤9223372036854775807)∧(-9223372036854775808≤l[i].back∧l[i].back≤9223372036854775807)
theorem TokIn.upd {w w':World} {a:Option Addr} {len:Nat} {l:List Tok} {fp:List Nat} (h:TokIn w a len l) (hU:Upd fp w w') (hf : ∀ b off,a=some ⟨b,off,none⟩→b∉fp):TokIn w' a len l :=
 ⟨h.len,fun i hi=>by
  obtain ⟨b,off,e,⟨c1,c2,c3⟩,r⟩:=h.cell i hi
  have hb:b<w.heap.size:=World.block_lt_of_cell? w _ c1
  exact ⟨b,off,e,⟨(hU.at hb (hf b off e) _).trans c1,(hU.at hb (hf b off e) _).trans c2,(hU.at hb (hf b off e) _).trans c3⟩,r⟩⟩
theorem TokIn.pure {w w':World} {a:Option Addr} {len:Nat} {l:List Tok} (h:TokIn w a len l) (hU:Upd [] w w'):TokIn w' a len l:=h.upd hU (by simp)
def je (s:List Nat) (back:Nat):Nat→List Nat
 | 0=>s
 | k+1=>je s back k++[(je s back k).getD ((je s back k).length-back) 0]
theorem vj (s:List Nat) (back k:Nat):je s back (k+1)=je s back k++[(je s back k).getD ((je s back k).length-back) 0]:=by rw [je]
theorem Jo (s:List Nat) (back:Nat) : ∀ k,(je s back k).length=s.length+k
 | 0=>rfl
 | k+1=>by rw [vj,List.length_append,Jo s back k]; rfl
def Js (t:Tok) (n:Nat):Prop:=t.byte≠0∨t.long<3∨258<t.long∨t.back<1∨32768<t.back∨(n:Int)<t.back∨65000<t.long+(n:Int)
instance (t:Tok) (n:Nat):Decidable (Js t n):=by unfold Js; infer_instance
def zJ:List Tok→List Nat→Option (List Nat)
 | [],s=>some s
 | t::r,s=>if t.long=0 then (if t.back≠0∨65000≤s.length then none else zJ r (s++[t.byte])) else if Js t s.length then none else zJ r (je s t.back.toNat t.long.toNat)
theorem yw (t:Tok) (r:List Tok) (s:List Nat):zJ (t::r) s=if t.long=0 then (if t.back≠0∨65000≤s.length then none else zJ r (s++[t.byte])) else if Js t s.length then none else zJ r (je s t.back.toNat t.long.toNat):=rfl
def zo (t:Tok):Prop:=(t.long=0∧t.back=0∧t.byte<256)∨(t.byte=0∧3≤t.long∧t.long≤258∧1≤t.back∧t.back≤32768)
end Go.Proofs.YtfkcdnaghndgfaaGreatDoor
namespace Go.Proofs.YtfkcdnaghndgfaaGreatDoor
open Go.RowKit
attribute [local go_sem] Oper.semAt_some
def zch (S:ByteArray) (i:Nat) (h:i+3≤S.size):Value := .agg #[.int .u8 (S[i].toNat:Nat),.int .u8 (S[i+1].toNat:Nat),.int .u8 (S[i+2].toNat:Nat)]
theorem YJ {fn:Func} {p:Tmp} (h:fn.results = #[.cell p 184]) (tmps:Array Value) (w:World) (g:Nat) (x y z:Value) (hp:tmps.getD p undef = .pointer (some ⟨g,0,none⟩)) (hB:Blk w g [x,y,z] 184) :
 (results fn tmps).run Tryz.prog w = .ok (.agg #[x,y,z]) w:=by
 have hc0:=hB.cell 0 rfl
 have hc1:=hB.cell 1 rfl
 have hc2:=hB.cell 2 rfl
 have hp2:tmps[p]?.getD undef = .pointer (some ⟨g,0,none⟩):=by rw [← hp]; simp
 simp [results,h,go_sem,hp2,hc0,hc1,hc2]
set_option maxRecDepth 100000 in
set_option maxHeartbeats 3200000 in
theorem YN (S:ByteArray) (i fb:Nat) (x1 x2 x3:Value) (w:World) (hs:S.size≤65000) (hi:i+3≤S.size) (hF:Blk w fb [.string S,x1,x2,x3] 128) :
 Calls Tryz.prog 128 #[.pointer (some ⟨fb,0,none⟩),.int .i64 (i:Nat)] w fun e w'=>e = .returned (zch S i hi)∧Upd [] w w':=by
 have HF:=Lib.hid hF
 have hlt:=hF.lt
 have HK:Hid (zch S i hi = .agg #[.int .u8 (S[i].toNat:Nat),.int .u8 (S[i+1].toNat:Nat),.int .u8 (S[i+2].toNat:Nat)]):=Lib.hid rfl
 obtain ⟨p,hp⟩ : ∃ p,i+1=p:=⟨_,rfl⟩
 obtain ⟨q,hq⟩ : ∃ q,i+2=q:=⟨_,rfl⟩
 have hpw:IntKind.i64.wrap ((i:Int)+1)=(p:Int):=by rw [IntWalk.i64_in _ (by omega)]; omega
 have hqw:IntKind.i64.wrap ((i:Int)+2)=(q:Int):=by rw [IntWalk.i64_in _ (by omega)]; omega
 have hps:p<S.size:=by omega
 have hqs:q<S.size:=by omega
 have his:i<S.size:=by omega
 have hpz:(p:Int)<(S.size:Int):=by omega
 have hqz:(q:Int)<(S.size:Int):=by omega
 have hiz:(i:Int)<(S.size:Int):=by omega
 have HK2:Hid (zch S i hi = .agg #[.int .u8 (S[i].toNat:Nat),.int .u8 (S[p].toNat:Nat),.int .u8 (S[q].toNat:Nat)]):=Lib.hid (by subst hp; subst hq; exact HK.out)
 clear HK hp hq
 generalize zch S i hi=KV at *
 go_enter Tryz.func128,Tryz.ntmps128
 go_upto_region 1 with fail
 have HB:=Lib.hid (Blk.new w [.int .u8 0,.int .u8 0,.int .u8 0] 184)
 have HU:=Lib.hid ((Upd.refl [] w).alloc (.cells #[.int .u8 0,.int .u8 0,.int .u8 0] 184))
 have HF1:=Lib.hid (HF.out.alloc (.cells #[.int .u8 0,.int .u8 0,.int .u8 0] 184))
 generalize w.alloc (.cells #[.int .u8 0,.int .u8 0,.int .u8 0] 184)=w1 at *
 obtain ⟨B,hB⟩ : ∃ B,w.heap.size=B:=⟨_,rfl⟩
 rw [hB] at HB ⊢
 have hBw:w.heap.size≤B:=by omega
 have c0:=HF1.out.cell 0 rfl
 have bA:=HB.out.all
 have fA:=HB.out.frz
 clear hF hlt hB HF
 go_region
 generalize (.int .u8 (S[i].toNat:Nat):Value)=X at *
 generalize (.int .u8 (S[p].toNat:Nat):Value)=Y at *
 generalize (.int .u8 (S[q].toNat:Nat):Value)=Z at *
 have hB9:Blk (((w1.setCell ⟨B,0,none⟩ X).setCell ⟨B,1,none⟩ Y).setCell ⟨B,2,none⟩ Z).drew B [X,Y,Z] 184:=Blk.drew (((HB.out.set 0 X).set 1 Y).set 2 Z)
 have hU9:Upd [] w (((w1.setCell ⟨B,0,none⟩ X).setCell ⟨B,1,none⟩ Y).setCell ⟨B,2,none⟩ Z).drew:=(((HU.out.setCell (.inr hBw) X).setCell (.inr hBw) Y).setCell (.inr hBw) Z).drew
 generalize (((w1.setCell ⟨B,0,none⟩ X).setCell ⟨B,1,none⟩ Y).setCell ⟨B,2,none⟩ Z).drew=w9 at *
 have HU9:=Lib.hid hU9
 clear hU9 HB HU HF1
 go_wp2
 refine bodyPost_ret (YJ rfl _ _ B X Y Z rfl hB9) rfl ?_
 exact ⟨by rw [HK2.out],HU9.out⟩
end Go.Proofs.YtfkcdnaghndgfaaGreatDoor
