/- Package block: Many: its walk. -/
import Derived.Test.YtfkenhihcmmgkaaGreatDoorQBL
set_option linter.unusedVariables false
set_option linter.unusedSimpArgs false
set_option linter.unusedSectionVars false
set_option maxRecDepth 100000
set_option maxHeartbeats 12800000
namespace Go.Proofs.YtfkenhihcmmgkaaGreatDoor
open Go.RowKit
def qK (a:List Nat) (c:Nat):List Nat:=a.set c (a.getD c 0+1)
theorem Zm (a:List Nat) (c:Nat):(qK a c).length=a.length:=by simp [qK]
theorem Yc (a:List Nat) (c i:Nat) (h : ∀ x∈a,x≤i) : ∀ x∈qK a c,x≤i+1:=by
 intro x hx;unfold qK at hx;rcases List.mem_or_eq_of_mem_set hx with h1 | h1
 · have:=h x h1; omega
 · rw [h1,List.getD_eq_getElem?_getD];cases h2:a[c]? with
   | none=>simp
   | some y=>have:=h y (List.mem_of_getElem? h2); simp; omega
def jU (t:Tok):Nat:=if t.long=0 then t.byte else 257+(yU t.long.toNat 29 0).getD 0
def vJ (t:Tok):Nat:=(ky t.back.toNat 30 0).getD 0
def kq (p:List Nat×List Nat) (t:Tok):List Nat×List Nat:=(qK p.1 (jU t),if t.long=0 then p.2 else qK p.2 (vJ t))
def zt (l:List Tok):List Nat×List Nat:=l.foldl kq ((List.replicate 286 0).set 256 1,List.replicate 30 0)
theorem jL (l:List Tok) (t:Tok):zt (l++[t])=kq (zt l) t:=by unfold zt; rw [List.foldl_append]; rfl
structure ManyOk (p:List Nat×List Nat) (i:Nat):Prop where
 la:p.1.length=286
 lb:p.2.length=30
 ba : ∀ x∈p.1,x≤i+1
 bb : ∀ x∈p.2,x≤i+1
theorem ManyOk.step {p:List Nat×List Nat} {i:Nat} (h:ManyOk p i) (t:Tok):ManyOk (kq p t) (i+1):=by
 unfold kq;refine ⟨by rw [Zm]; exact h.la,?_,Yc _ _ _ h.ba,?_⟩
 · dsimp only;split
   · exact h.lb
   · rw [Zm]; exact h.lb
 · dsimp only;split
   · intro x hx; have:=h.bb x hx; omega
   · exact Yc _ _ _ h.bb
theorem kC:zt []=((List.replicate 286 0).set 256 1,List.replicate 30 0):=rfl
theorem ManyOk.nil:ManyOk (zt []) 0:=by
 rw [kC];refine ⟨by rw [List.length_set,List.length_replicate],List.length_replicate,?_,?_⟩
 · intro x hx;rcases List.mem_or_eq_of_mem_set hx with h1 | h1
   · have:=List.eq_of_mem_replicate h1; omega
   · omega
 · intro x hx;have:=List.eq_of_mem_replicate hx;omega
theorem qV (l:List Tok) : ∀ i,i≤l.length→ManyOk (zt (l.take i)) i
 | 0,_=>ManyOk.nil
 | i+1,h=>by
   rw [List.take_succ_eq_append_getElem (show i<l.length by omega),jL];exact (qV l i (by omega)).step _
theorem zhg : ∀ n:Fin 259,3≤n.val→(yU n.val 29 0).getD 99<29:=by decide +kernel
def zgj (l:List Tok) (w:World) (e:Ending) (w':World):Prop := ∃ oa ob,e = .returned (.tuple #[.slice (some ⟨oa,0,none⟩) 286 286,.slice (some ⟨ob,0,none⟩) 30 30])∧Blk w' oa (zl (zt l).1) 3∧Blk w' ob (zl (zt l).2) 3∧w.heap.size≤oa∧w.heap.size≤ob∧oa≠ob∧Upd [] w w'
theorem zbq (l:List Tok) (a:Option Addr) (n cap:Nat) (w:World) (hI:TokIn w a n l) (hn:n≤100000) (hok : ∀ t∈l,yu t) :
 Calls Tryz.prog 296 #[.slice a n cap] w fun e w'=>zgj l w e w':=by
 have HI:=Hi hI;have HLN:=Hi hI.len;have HOK:=Hi hok;have HMO:=Hi (qV l);clear hI hok;obtain ⟨ZA,hZA⟩ : ∃ Z,List.replicate 286 0=Z:=⟨_,rfl⟩;obtain ⟨ZB,hZB⟩ : ∃ Z,List.replicate 30 0=Z:=⟨_,rfl⟩;have hm1 : ∀ w,(Instr.makeSlice 57 (.int .i64 286) (.int .i64 286)).run Tryz.prog w = .ok (.slice (some ⟨w.heap.size,0,none⟩) 286 286) (w.alloc (.cells (zl ZA).toArray 3)):=by rw [← hZA]; exact zcL 286 (by omega)
 have hm2 : ∀ w,(Instr.makeSlice 57 (.int .i64 30) (.int .i64 30)).run Tryz.prog w = .ok (.slice (some ⟨w.heap.size,0,none⟩) 30 30) (w.alloc (.cells (zl ZB).toArray 3)):=by rw [← hZB]; exact zcL 30 (by omega)
 have HZA:=Hi hZA;have HZB:=Hi hZB;clear hZA hZB;go_enter Tryz.func296,Tryz.ntmps296;go_upto_region 1 with fail
 go_cut [4,5] (fun s4 s5 wx => ∃ oa ob,s4 = .slice (some ⟨oa,0,none⟩) 286 286∧s5 = .slice (some ⟨ob,0,none⟩) 30 30∧Hid (Blk wx oa (zl ZA) 3)∧Hid (Blk wx ob (zl ZB) 3)∧Hid (w.heap.size≤oa∧w.heap.size≤ob∧oa≠ob)∧Hid (Upd [] w wx))
 case first =>
  go_region
  all_goals go_wp2
  all_goals go_meet
  · have h2:=Blk.new (w.alloc (.cells (zl ZA).toArray 3)) (zl ZB) 3;rw [World.size_alloc] at h2;exact ⟨_,_,rfl,rfl,Hi ((Blk.new w (zl ZA) 3).alloc _).drew,Hi h2.drew,Hi ⟨Nat.le_refl _,Nat.le_succ _,by omega⟩,Hi (((Upd.refl [] w).alloc _).alloc _).drew⟩
  · have h2:=Blk.new (w.alloc (.cells (zl ZB).toArray 3)) (zl ZA) 3;rw [World.size_alloc] at h2;exact ⟨_,_,rfl,rfl,Hi h2.drew,Hi ((Blk.new w (zl ZB) 3).alloc _).drew,Hi ⟨Nat.le_succ _,Nat.le_refl _,by omega⟩,Hi (((Upd.refl [] w).alloc _).alloc _).drew⟩
 case rest =>
  obtain ⟨oa,ob,rfl,rfl,HBA,HBB,HNE,HUx⟩:=hcut;have hne:=HNE.out.2.2;have c256:=HBA.out.cell 256 (zB ZA 256 0 (by rw [← HZA.out,List.getElem?_replicate]; rfl));have f256:=HBA.out.frz 256;have HA1:Hid (Blk (wc.setCell ⟨oa,256,none⟩ (.int .i64 1)) oa (zl (zt (l.take 0)).1) 3):=Hi (by
   have h:=HBA.out.set 256 (.int .i64 1);rw [List.take_zero,kC,HZA.out];rw [xL];exact h)
  have HB1:Hid (Blk (wc.setCell ⟨oa,256,none⟩ (.int .i64 1)) ob (zl (zt (l.take 0)).2) 3):=Hi (by
   rw [List.take_zero,kC,HZB.out];exact HBB.out.setFar (a:=⟨oa,256,none⟩) _ (Ne.symm hne))
  have HU1:Hid (Upd [] w (wc.setCell ⟨oa,256,none⟩ (.int .i64 1))):=Hi (HUx.out.setCell (.inr HNE.out.1) _);clear HBA HBB HUx hm1 hm2;go_wp2;generalize wc.setCell ⟨oa,256,none⟩ (.int .i64 1)=w1 at *;clear c256 f256;go_loopg [18] 200000 (fun gg s18 wr => ∃ i:Nat,i≤n∧gg=200000-i∧s18 = .int .i64 (i:Nat)∧Hid (Blk wr oa (zl (zt (l.take i)).1) 3)∧Hid (Blk wr ob (zl (zt (l.take i)).2) 3)∧Hid (Upd [] w wr))
  case atStart=>exact ⟨0,by omega,by omega,rfl,HA1,HB1,HU1⟩
  case round =>
   obtain ⟨i,hin,rfl,rfl,HA,HB,HU⟩:=hrel;by_cases hc:i<n
   · have hcz:(i:Int)<(n:Int):=(by omega);have hil:i<l.length:=(by rw [HLN.out]; exact hc);have hw1:IntKind.i64.wrap ((i:Int)+1)=((i+1:Nat):Int):=(by rw [IntWalk.i64_in _ (by omega)]; rfl);obtain ⟨b,off,rfl,⟨hc1,hc2,hc3⟩,r1,r2,r3⟩:=(HI.out.pure HU.out).cell i hil;have HST:Hid (zt (l.take (i+1))=kq (zt (l.take i)) l[i]):=Hi (by rw [List.take_succ_eq_append_getElem hil,jL]);have hot:=HOK.out l[i] (List.getElem_mem hil);have HMk:=Hi (HMO.out i (by omega));generalize l[i]=t at *;generalize zt (l.take i)=p at *;obtain ⟨pa,pb⟩:=p;obtain ⟨tb,tl,tk⟩:=t;dsimp only at hc1 hc2 hc3 r1 r2 r3;have hT4:=Blk.new wr [.int .u8 (tb:Nat),.int .i64 tl,.int .i64 tk] 287;have hU4:=HU.out.alloc (.cells #[.int .u8 (tb:Nat),.int .i64 tl,.int .i64 tk] 287);have hA4:=HA.out.alloc (.cells #[.int .u8 (tb:Nat),.int .i64 tl,.int .i64 tk] 287);have hB4:=HB.out.alloc (.cells #[.int .u8 (tb:Nat),.int .i64 tl,.int .i64 tk] 287);have hog:oa<wr.heap.size∧ob<wr.heap.size:=⟨HA.out.lt,HB.out.lt⟩;clear hil HA HB HU;(go_upto_region 6 with fail);change Code.wp _ _ _ _ (wr.alloc (.cells #[.int .u8 (tb:Nat),.int .i64 tl,.int .i64 tk] 287));generalize wr.alloc (.cells #[.int .u8 (tb:Nat),.int .i64 tl,.int .i64 tk] 287)=w4 at *;generalize wr.heap.size=g at *;have tA:=hT4.all;have t2:=hT4.cell 2 rfl;have HU4:=Hi hU4;have HT4:=Hi hT4;have HA4:=Hi hA4;have HB4:=Hi hB4;clear hT4 hU4 hA4 hB4 hc1 hc2 hc3;have hgu:w.heap.size≤oa∧w.heap.size≤ob:=⟨HNE.out.1,HNE.out.2.1⟩;have hla:=HMk.out.la;have hlb:=HMk.out.lb;have hba:=HMk.out.ba;have hbb:=HMk.out.bb;dsimp only at hla hlb hba hbb;by_cases h0:tl=0
     · have hb256:tb<286:=(by unfold yu at hot; dsimp only at hot; omega);have hcl:jU ⟨tb,tl,tk⟩=tb:=(by unfold jU; rw [if_pos h0]);have hS2:kq (pa,pb) ⟨tb,tl,tk⟩=(qK pa tb,pb):=(by unfold kq; rw [hcl]; dsimp only; rw [if_pos h0]);have hgt:pa[tb]? =some (pa.getD tb 0):=(by rw [List.getD_eq_getElem?_getD,List.getElem?_eq_getElem (by omega)]; rfl);have hle:pa.getD tb 0≤i+1:=hba _ (List.mem_of_getElem? hgt);have ca:=HA4.out.cell tb (zB pa tb _ hgt);have fa:=HA4.out.frz tb;have HAd:Hid (qK pa tb=pa.set tb (pa.getD tb 0+1)):=Hi rfl;generalize pa.getD tb 0=y at *;have hwy:IntKind.i64.wrap ((y:Int)+1)=((y+1:Nat):Int):=(by rw [IntWalk.i64_in _ (by omega)]; rfl);have htz:(tb:Int)<286:=(by omega);have HA5:Hid (Blk (w4.setCell ⟨oa,tb,none⟩ (.int .i64 ((y+1:Nat):Int))) oa (zl (zt (l.take (i+1))).1) 3):=Hi (by
        rw [HST.out,hS2];dsimp only;rw [HAd.out,xL];exact HA4.out.set tb _)
       have HB5:Hid (Blk (w4.setCell ⟨oa,tb,none⟩ (.int .i64 ((y+1:Nat):Int))) ob (zl (zt (l.take (i+1))).2) 3):=Hi (by
        rw [HST.out,hS2];exact HB4.out.setFar (a:=⟨oa,tb,none⟩) _ (Ne.symm hne))
       have HU5:=Hi (HU4.out.setCell (p:=⟨oa,tb,none⟩) (.inr hgu.1) (.int .i64 ((y+1:Nat):Int)));subst h0;clear hot hla hlb hba hbb hcl hS2 hgt HMk HT4 HA4 HB4 HU4;go_wp2;go_roundg (200000-(i+1))
       · exact ⟨i+1,by omega,by first | rfl | omega,by first | rfl | go_num,HA5,HB5,HU5⟩
       · omega
     · exfalso; unfold yu at hot; dsimp only at hot; omega
   · have hcz : ¬ (i:Int)<(n:Int):=(by omega);obtain rfl:i=n:=(by omega);have htk:l.take i=l:=List.take_of_length_le (by rw [HLN.out]; exact Nat.le_refl _);rw [htk] at HA HB;clear htk;go_wp2;go_returns;exact ⟨oa,ob,rfl,HA.out,HB.out,HNE.out.1,HNE.out.2.1,HNE.out.2.2,HU.out⟩
def zfi (na nb:List Nat) (t:Tok):List Bool :=
 if t.long=0 then ya na t.byte
 else ya na (jU t)++(low (jK.getD ((yU t.long.toNat 29 0).getD 0) 0) (t.long.toNat-lAt.getD ((yU t.long.toNat 29 0).getD 0) 0)++(ya nb (vJ t)++low (dBt (vJ t)) (t.back.toNat-dAt.getD (vJ t) 0)))
def Vw (na nb:List Nat):List Tok→List Bool
 | []=>ya na 256
 | t::r=>zfi na nb t++Vw na nb r
structure Coded (na nb:List Nat) (l:List Tok):Prop where
 fin:na.getD 256 0≠0
 lit : ∀ t∈l,na.getD (jU t) 0≠0
 bak : ∀ t∈l,t.long≠0→nb.getD (vJ t) 0≠0
structure WS (w0:World) (b:Nat) (v0:Value) (w:World) (v:Value) (L:List Bool):Prop where
 at_:WrAt w b v L (L.length/8)
 upd:Upd (xJ b v0) w0 w
 later:Later w0 v0 v
theorem WS.fp {w0 w w':World} {b:Nat} {v0 v:Value} {L:List Bool} (h:WS w0 b v0 w v L) (hU:Upd (xJ b v) w w'):Upd (xJ b v0) w0 w' :=
 h.upd.trans hU (fun k hk=>by
  rcases List.mem_cons.1 hk with rfl | hk
  · exact .inl List.mem_cons_self
  · rcases h.later.fp k hk with h1 | h1
    · exact .inl (List.mem_cons_of_mem _ h1)
    · exact .inr h1)
theorem WS.refl {w:World} {b:Nat} {v:Value} {L:List Bool} (h:WrAt w b v L (L.length/8)):WS w b v w v L:=⟨h,Upd.refl _ _,Later.refl _ _⟩
theorem WS.pure {w0 w w':World} {b:Nat} {v0 v:Value} {L:List Bool} (h:WS w0 b v0 w v L) (hU:Upd [] w w'):WS w0 b v0 w' v L :=
 ⟨h.at_.upd hU (by simp) (by simp),h.upd.trans hU (by simp),h.later⟩
theorem WS.step {w0 w w':World} {b:Nat} {v0 v v':Value} {L L':List Bool} (h:WS w0 b v0 w v L) (hW:WrAt w' b v' L' (L'.length/8)) (hU:Upd (xJ b v) w w') (hT:Later w v v'):WS w0 b v0 w' v' L' :=
 ⟨hW,h.fp hU,h.later.trans h.upd.size hT⟩
theorem Xh (l:List Nat):zj (ints l)=l:=by
 unfold zj ints;rw [List.map_map];have:(Int.toNat∘fun x:Nat=>(x:Int))=id:=by funext x; simp
 rw [this,List.map_id]
def zkj (w:World) (b:Nat) (v:Value) (L:List Bool) (e:Ending) (w':World):Prop:=e = .returned (.bool true) ∧ ∃ v',WrAt w' b v' L (L.length/8)∧Upd (xJ b v) w w'∧Later w v v'
theorem zbb (b nx cx S:Nat) (v:Value) (L:List Bool) (x:Option Addr) (na:List Nat) (w:World) (hX : ∀ w',Upd (xJ b v) w w'→IntsIn w' x nx (ints na)) (hW:WrAt w b v L (L.length/8)) (hL:L.length≤1000000000000)
 (hk3:zm (ints na)≠3) (h0:na.getD S 0≠0) :
 Calls Tryz.prog 293 #[.pointer (some ⟨b,0,none⟩),.slice x nx cx,.slice (some ⟨w.heap.size,0,none⟩) 1 1] (w.alloc (.cells #[.int .i64 (S:Nat)] 3)) (zkj w b v (L++ya na S)):=by
 have hlen:nx=(ints na).length:=(hX w (Upd.refl _ _)).len.symm;subst hlen;have hUa:Upd [] w (w.alloc (.cells #[.int .i64 (S:Nat)] 3)):=(Upd.refl [] w).alloc _;have hWa:=hW.upd hUa (by simp) (by simp);have hB:=Blk.new w [.int .i64 (S:Nat)] 3;have hS:S<na.length:=by
  rcases Nat.lt_or_ge S na.length with h | h
  · exact h
  · rw [List.getD_eq_getElem?_getD,List.getElem?_eq_none h] at h0;exact absurd rfl h0
 have hS64:(S:Int)≤9223372036854775807:=by
  have h1:=(zC (qS hk3).1).1;simp [ints] at h1;omega
 have hne:w.heap.size∉xJ b v:=fun hm=>by
  rcases List.mem_cons.1 hm with h | h
  · have:=hW.blk.lt; omega
  · have:=hW.row.lt w.heap.size (by simpa using h); omega
 have h:=zfn b v L x (some ⟨w.heap.size,0,none⟩) cx 1 (ints na) [(S:Int)] (w.alloc (.cells #[.int .i64 (S:Nat)] 3)) (by simp)
  (fun w' hU=>hX w' ((hUa.mono (by simp)).then hU)) (fun w' hU=>IntsIn.of_blk (l:=[(S:Int)]) (hB.upd hU hne) (fun y hy=>by rw [List.mem_singleton] at hy; rw [hy]; omega)) hWa hL hk3
  (by
   rw [Xh];simp only [KC,List.all_cons,List.all_nil,Bool.and_true,zgt,Int.toNat_natCast];simp only [Bool.and_eq_true,decide_eq_true_eq];exact ⟨⟨by omega,by omega⟩,h0⟩)
 refine h.mono (fun e w' h2=>?_);obtain ⟨he,v',h3,h4,h5⟩:=h2;rw [Xh] at h3;have e2:xe na [(S:Int)]=ya na S:=by simp [xe]
 rw [e2] at h3;exact ⟨he,v',h3,(hUa.mono (by simp)).then h4,by
  rcases h5 with h5 | ⟨g,h6,h7⟩
  · exact .inl h5
  · exact .inr ⟨g,h6,Nat.le_trans hUa.size h7⟩⟩
theorem zet {na:List Nat} (h : ∀ x∈na,x≤15) (j:Nat):na.getD j 0≤15:=by
 rw [List.getD_eq_getElem?_getD];cases h2:na[j]? with
 | none=>simp
 | some y=>exact h y (List.mem_of_getElem? h2)
theorem Xc (na:List Nat) (h15 : ∀ x∈na,x≤15) (S:Nat):(ya na S).length≤15:=by
 rw [xO];exact zet h15 S
def Xl (na nb:List Nat) (l:List Tok):List Bool:=l.flatMap (zfi na nb)
theorem Xr (na nb:List Nat) : ∀ l,Vw na nb l=Xl na nb l++ya na 256
 | []=>rfl
 | t::l=>by
   show zfi na nb t++Vw na nb l=_;rw [Xr na nb l];unfold Xl;rw [List.flatMap_cons,List.append_assoc]
def zkq (w:World) (b:Nat) (v:Value) (L:List Bool) (e:Ending) (w':World):Prop:=e = .returned (.tuple #[]) ∧ ∃ v',WS w b v w' v' L
def zjJ (s:Int):Int:=if s<0∨18<s then -1 else if s≤15 then 0 else if s=16 then 2 else if s=17 then 3 else 7
theorem zbv (s:Int) (w:World):Calls Tryz.prog 353 #[.int .i64 s] w fun e w'=>e = .returned (.int .i64 (zjJ s))∧w=w':=by
 go_enter Tryz.func353,Tryz.ntmps353;go_wp2;all_goals go_returns
 all_goals (refine ⟨congrArg (fun z=>Ending.returned (.int .i64 z)) ?_,rfl⟩)
 all_goals (unfold zjJ; (repeat' split)<;>first | rfl | (exfalso; omega) | (exfalso; simp_all; done) | (exfalso; simp_all; omega))
def Kx (s:Int):Int:=if s=18 then 11 else 3
theorem xu (s:Int) (w:World):Calls Tryz.prog 348 #[.int .i64 s] w fun e w'=>e = .returned (.int .i64 (Kx s))∧w=w':=by
 go_enter Tryz.func348,Tryz.ntmps348;go_wp2;all_goals go_returns
 all_goals (refine ⟨congrArg (fun z=>Ending.returned (.int .i64 z)) ?_,rfl⟩)
 all_goals (unfold Kx; (repeat' split)<;>first | rfl | (exfalso; omega) | (exfalso; simp_all; done) | (exfalso; simp_all; omega))
theorem vP:(Tryz.prog.info? 351).map (·.size)=some 3:=by kernel_rfl
theorem qc {P:Program} {fn:Func} {p u:Tmp} {ty:TypeId} (h:fn.results = #[.cell p ty,.tmp u]) (tmps:Array Value) (w:World) (g:Nat) (t:TypeId) (cs:Array Value) (fr:Nat×Nat) (d:TypeDesc) (v:Value)
 (hp:tmps.getD p undef = .pointer (some ⟨g,0,none⟩)) (hv:tmps.getD u undef=v) (hg:w.heap[g]? =some (.cells cs t fr))
 (hu:P.underlying ty=some d) (hd:(match d with | .struct _ | .array _ _=>true | _=>false)=true) (hi:(P.info? ty).map (·.size)=some cs.size) :
 (results fn tmps).run P w = .ok (.tuple #[.agg cs,v]) w:=by
 rw [results_cell_tmp h,hp,hv];simp [asAddr,run_loadVar_row w g t ty cs fr d hg hu hd hi,Result.andThen]
def Jd (s:Nat):Nat:=if s=16 then 6 else if s=17 then 10 else 138
def runL' (s:Nat):Nat:=if s=18 then 11 else 3
def vA (s:Nat):Nat:=if s=16 then 2 else if s=17 then 3 else 7
def zbt (s n:Nat) (w:World) (e:Ending) (w':World):Prop:=e = .returned (.tuple #[.agg #[.int .i64 (s:Nat),.int .i64 (vA s:Nat),.int .i64 ((min n (Jd s)-runL' s:Nat):Int)],.int .i64 ((min n (Jd s):Nat):Int)])∧Upd [] w w'
theorem Jc (s n:Nat) (w:World) (hs:s=16∨s=17∨s=18) (hn:runL' s≤n) (hn2:n≤1000000) :
 Calls Tryz.prog 349 #[.int .i64 (s:Nat),.int .i64 (n:Nat)] w fun e w'=>zbt s n w e w':=by
 obtain ⟨M,hM⟩ : ∃ M,Jd s=M:=⟨_,rfl⟩;obtain ⟨L,hL⟩ : ∃ L,runL' s=L:=⟨_,rfl⟩;obtain ⟨b,hb⟩ : ∃ b,vA s=b:=⟨_,rfl⟩;have hB:zjJ (s:Nat)=(b:Int):=by rw [← hb]; rcases hs with rfl | rfl | rfl<;>decide
 have hLI:Kx (s:Nat)=(L:Int):=by rw [← hL]; rcases hs with rfl | rfl | rfl<;>decide
 obtain ⟨P,hP⟩ : ∃ P:Nat,2^b=P:=⟨_,rfl⟩;have hPM:L+P-1=M∧3≤L∧L≤11∧4≤P∧P≤128∧b≤7:=by
  rw [← hM,← hL,← hP,← hb];rcases hs with rfl | rfl | rfl<;>decide
 have HBI:=Hi (fun w'=>show Calls Tryz.prog 353 #[.int .i64 (s:Nat)] w' fun e w2=>e = .returned (.int .i64 (b:Int))∧w'=w2 by rw [← hB]; exact zbv _ w');have HLE:=Hi (fun w'=>show Calls Tryz.prog 348 #[.int .i64 (s:Nat)] w' fun e w2=>e = .returned (.int .i64 (L:Int))∧w'=w2 by rw [← hLI]; exact xu _ w');have hpw:wrap64 ((2:Int)^b)=(P:Int):=by
  have:((2:Int)^b)=(P:Int):=by rw [← hP]; simp
  rw [this];unfold wrap64;omega
 have HPW:=Hi hpw;unfold zbt;rw [hM,hL,hb];rw [hL] at hn;clear hpw hB hLI hM hL hb hP;obtain ⟨q,hq⟩ : ∃ q:Nat,min n M=q:=⟨_,rfl⟩;have hqi:min (n:Int) (M:Int)=(q:Int):=by omega
 have hLq:L≤q:=by omega
 rw [hq];have hw1:IntKind.i64.wrap ((L:Int)+(P:Int))=(L:Int)+(P:Int):=IntWalk.i64_in _ (by omega);have hw2:IntKind.i64.wrap ((L:Int)+(P:Int)-1)=(M:Int):=by rw [IntWalk.i64_in _ (by omega)]; omega
 have hw3:IntKind.i64.wrap ((q:Int)-(L:Int))=((q-L:Nat):Int):=by rw [IntWalk.i64_in _ (by omega)]; omega
 have hb64:(b:Int)<64:=by omega
 have HQ:=Hi hq;clear hq hPM;have hpw:=HPW.out;go_enter Tryz.func349,Tryz.ntmps349;go_wp2_with fail
 refine (HBI.out _).mono ?_;rintro e w1 ⟨rfl,rfl⟩;go_wp2
 go_quiet ((go_at_call 348; exact Calls.quiet_of_same ((HLE.out _).mono fun e w' ⟨he,hw⟩=>⟨he,hw.symm⟩)))
 go_wp2_with fail
 refine (HLE.out _).mono ?_;rintro e w2 ⟨rfl,rfl⟩;have hB:=(Blk.new w [.int .i64 0,.int .i64 0,.int .i64 0] 351).drewN nq;have hU:=((Upd.refl [] w).alloc (.cells #[.int .i64 0,.int .i64 0,.int .i64 0] 351)).drewN nq;have fA:=hB.frz;have cA:=hB.all;have HB:=Hi hB;have HU:=Hi hU;clear hB hU hpw;go_wp2;have hB9:=((HB.out.set 0 (.int .i64 (s:Nat))).set 1 (.int .i64 (b:Nat))).set 2 (.int .i64 ((q-L:Nat):Int));refine bodyPost_ret (qc rfl _ _ w.heap.size _ _ _ _ (.int .i64 (q:Nat)) (by simp [Act.put]) (by simp [Act.put]) hB9 Tryz.underlying351 rfl (by rw [vP]; rfl)) (by simp [Act.put]) ⟨?_,?_⟩
 · rfl
 · exact ((HU.out.setCell (.inr (Nat.le_refl _)) _).setCell (.inr (Nat.le_refl _)) _).setCell (.inr (Nat.le_refl _)) _
def yD (k:Int):List Int→Nat
 | []=>0
 | x::r=>if x=k then yD k r+1 else 0
theorem kU (k:Int) : ∀ l,yD k l≤l.length
 | []=>Nat.le_refl _
 | x::r=>by
   rw [yD];split
   · have:=kU k r; simp; omega
   · simp
theorem KD (k:Int) : ∀ (l:List Int) (i:Nat),(∀ j,j<i→l[j]? =some k)→i≤l.length→yD k l=i+yD k (l.drop i)
 | l,0,_,_=>by simp
 | [],i+1,_,h=>by simp at h
 | x::r,i+1,h,hl=>by
   have h0:=h 0 (by omega);simp at h0;have:=KD k r i (fun j hj=>by have:=h (j+1) (by omega); simpa using this) (by simpa using hl);rw [yD,if_pos h0,this,List.drop_succ_cons];omega
theorem zhG (l:List Int) (k:Int) (a:Option Addr) (n cap g:Nat) (w:World) (hI:IntsIn w a n l) (hg:w.cell? ⟨g,0,none⟩=some (.slice a n cap)) (hn:n≤1000000) :
 Calls Tryz.prog 347 #[.int .i64 k,.pointer (some ⟨g,0,none⟩)] w fun e w'=>e = .returned (.int .i64 (yD k l:Nat))∧w=w':=by
 have HI:=Hi hI;have HLN:=Hi hI.len;clear hI;go_enter Tryz.func347,Tryz.ntmps347;go_wp2;go_loopg [3] 1000000 (fun gg s3 wr => ∃ i:Nat,i≤n∧gg=1000000-i∧s3 = .int .i64 (i:Nat)∧Hid (∀ j,j<i→l[j]? =some k)∧wr=w)
 case atStart=>exact ⟨0,by omega,by omega,rfl,Hi (fun j hj=>by omega),rfl⟩
 case round =>
  obtain ⟨i,hin,rfl,rfl,HE,hwr⟩:=hrel;subst hwr;by_cases hc:i<n
  · have hcz:(i:Int)<(n:Int):=(by omega);have hil:i<l.length:=(by rw [HLN.out]; exact hc);obtain ⟨b,off,rfl,hc1,_,_⟩:=HI.out.cell i hil;have HG:Hid (l[i]? =some l[i]):=Hi (List.getElem?_eq_getElem hil);have HDr:Hid (l.drop i=l[i]::l.drop (i+1)):=Hi (List.drop_eq_getElem_cons hil);generalize l[i]=x at *;have hw1:IntKind.i64.wrap ((i:Int)+1)=((i+1:Nat):Int):=(by rw [IntWalk.i64_in _ (by omega)]; rfl);clear hil;by_cases hx:x=k
    · subst hx;go_wp2;go_roundg (1000000-(i+1))
      · exact ⟨i+1,by omega,by first | rfl | omega,by first | rfl | go_num,Hi (fun j hj=>by
         rcases Nat.lt_or_ge j i with h | h
         · exact HE.out j h
         · obtain rfl:j=i:=(by omega);exact HG.out),rfl⟩
      · omega
    · have hxb:(x==k)=false:=(by simpa using hx);have HR:Hid (yD k l=i):=Hi (by rw [KD k l i HE.out (by rw [HLN.out]; exact hin),HDr.out,yD,if_neg hx]; omega);go_wp2;go_ret;exact ⟨by rw [HR.out]; rfl,rfl⟩
  · have hcz : ¬ (i:Int)<(n:Int):=(by omega);obtain rfl:i=n:=(by omega);have HR:Hid (yD k l=i):=Hi (by rw [KD k l i HE.out (by rw [HLN.out]; exact hin),List.drop_of_length_le (by rw [HLN.out]; exact Nat.le_refl _),yD]; omega);go_wp2;go_ret;exact ⟨by rw [HR.out]; rfl,rfl⟩
structure StpD where
 sym:Nat
 bits:Nat
 more:Nat
def StpD.cs (s:StpD):List Value:=[.int .i64 (s.sym:Nat),.int .i64 (s.bits:Nat),.int .i64 (s.more:Nat)]
def xW (s n:Nat):StpD×Nat:=(⟨s,vA s,min n (Jd s)-runL' s⟩,min n (Jd s))
def yo (l:List Int) (ahead:Int):StpD×Nat :=
 if 11≤yD 0 l then xW 18 (yD 0 l) else if 3≤yD 0 l then xW 17 (yD 0 l) else if 3≤yD ahead l then xW 16 (yD ahead l) else (⟨(l.headD 0).toNat,0,0⟩,1)
def zgo (l:List Int) (ahead:Int) (w:World) (e:Ending) (w':World):Prop:=e = .returned (.tuple #[.agg (yo l ahead).1.cs.toArray,.int .i64 ((yo l ahead).2:Nat)])∧Upd [] w w'
theorem zaO (l:List Int) (ahead:Int) (a:Option Addr) (n cap:Nat) (w:World) (hI:IntsIn w a n l) (hn:n≤1000000) (hn1:1≤n) (h0:0≤l.headD 0) :
 Calls Tryz.prog 328 #[.slice a n cap,.int .i64 ahead] w fun e w'=>zgo l ahead w e w':=by
 have HU:=Hi (((Upd.refl [] w).alloc (.cells #[.slice a n cap] 57)).alloc (.cells #[.int .i64 0,.int .i64 0,.int .i64 0] 351));have hP:=(Blk.new w [.slice a n cap] 57).alloc (.cells #[.int .i64 0,.int .i64 0,.int .i64 0] 351);have hQ:=Blk.new (w.alloc (.cells #[.slice a n cap] 57)) [.int .i64 0,.int .i64 0,.int .i64 0] 351;rw [World.size_alloc] at hQ;have HI2:=Hi (hI.pure HU.out);have HP:=Hi hP;have HQ:=Hi hQ;have HLN:=Hi hI.len;clear hI hP hQ;go_enter Tryz.func328,Tryz.ntmps328;go_upto_region 2 with fail
 change Code.wp _ _ _ _ ((w.alloc (.cells #[.slice a n cap] 57)).alloc (.cells #[.int .i64 0,.int .i64 0,.int .i64 0] 351));generalize (w.alloc (.cells #[.slice a n cap] 57)).alloc (.cells #[.int .i64 0,.int .i64 0,.int .i64 0] 351)=w2 at *;generalize hg0:w.heap.size=g at *;have HG0:=Hi hg0;clear hg0;have HC:=Hi (fun k=>zhG l k a n cap g w2 HI2.out (HP.out.cell 0 rfl) hn);have hz:=kU 0 l;have hag:=kU ahead l;rw [HLN.out] at hz hag;have HNX:Hid (yo l ahead=if 11≤yD 0 l then xW 18 (yD 0 l) else if 3≤yD 0 l then xW 17 (yD 0 l) else if 3≤yD ahead l then xW 16 (yD ahead l) else (⟨(l.headD 0).toNat,0,0⟩,1)):=Hi rfl;have HC0:=Hi (HC.out 0);have HCA:=Hi (HC.out ahead);generalize yD 0 l=z at *;generalize yD ahead l=ag at *;clear HC;go_wp2_with fail
 refine HC0.out.mono ?_;rintro e w3 ⟨rfl,rfl⟩;go_wp2_with fail
 refine HCA.out.mono ?_;rintro e w3 ⟨rfl,rfl⟩;by_cases h1:11≤z
 · have h1z:(11:Int)≤(z:Int):=(by omega);go_wp2_with fail
   refine (xu 18 w2).mono ?_;rintro e w3 ⟨rfl,rfl⟩;rw [show Kx 18=11 from by decide];have HSP:=Hi (fun w'=>Jc 18 z w' (by decide) (by show _≤z; simp only [show runL' 18=11 from by decide]; omega) (by omega));have HV:Hid (yo l ahead=xW 18 z):=Hi (by rw [HNX.out,if_pos h1]);unfold zbt at HSP;have HS2:Hid (xW 18 z=(⟨18,vA 18,min z (Jd 18)-runL' 18⟩,min z (Jd 18))):=Hi rfl;generalize min z (Jd 18)=q at *;generalize q-runL' 18=mo at *;generalize vA 18=bb at *;go_wp2_with fail
   refine (HSP.out w2).mono ?_;rintro e w4 ⟨rfl,hU4⟩;have hQ4:=HQ.out.upd hU4 (by simp);have HU4:=Hi (HU.out.then hU4);have fA:=hQ4.frz;have cA:=hQ4.all;have HQ4:=Hi hQ4;clear hU4 hQ4 HSP;go_wp2;have hB9:=((HQ4.out.set 0 (.int .i64 18)).set 1 (.int .i64 (bb:Nat))).set 2 (.int .i64 (mo:Nat));refine bodyPost_ret (qc rfl _ _ (g+1) _ _ _ _ (.int .i64 (q:Nat)) (by simp [Act.put]) (by simp [Act.put]) hB9 Tryz.underlying351 rfl (by rw [vP]; rfl)) (by simp [Act.put]) ⟨?_,?_⟩
   · rw [HV.out,HS2.out]; rfl
   · exact ((HU4.out.setCell (.inr (by rw [HG0.out]; simp)) _).setCell (.inr (by rw [HG0.out]; simp)) _).setCell (.inr (by rw [HG0.out]; simp)) _
 · have h1z : ¬ (11:Int)≤(z:Int):=(by omega);go_wp2_with fail
   refine (xu 18 w2).mono ?_;rintro e w3 ⟨rfl,rfl⟩;rw [show Kx 18=11 from by decide];by_cases h2:3≤z
   · have h2z:(3:Int)≤(z:Int):=(by omega);(go_wp2_with fail);refine (xu 17 w2).mono ?_;rintro e w3 ⟨rfl,rfl⟩;rw [show Kx 17=3 from by decide];have HSP:=Hi (fun w'=>Jc 17 z w' (by decide) (by show _≤z; simp only [show runL' 17=3 from by decide]; omega) (by omega));have HV:Hid (yo l ahead=xW 17 z):=Hi (by rw [HNX.out,if_neg h1,if_pos h2]);unfold zbt at HSP;have HS2:Hid (xW 17 z=(⟨17,vA 17,min z (Jd 17)-runL' 17⟩,min z (Jd 17))):=Hi rfl;generalize min z (Jd 17)=q at *;generalize q-runL' 17=mo at *;generalize vA 17=bb at *;(go_wp2_with fail);refine (HSP.out w2).mono ?_;rintro e w4 ⟨rfl,hU4⟩;have hQ4:=HQ.out.upd hU4 (by simp);have HU4:=Hi (HU.out.then hU4);have fA:=hQ4.frz;have cA:=hQ4.all;have HQ4:=Hi hQ4;clear hU4 hQ4 HSP;go_wp2;have hB9:=((HQ4.out.set 0 (.int .i64 17)).set 1 (.int .i64 (bb:Nat))).set 2 (.int .i64 (mo:Nat));refine bodyPost_ret (qc rfl _ _ (g+1) _ _ _ _ (.int .i64 (q:Nat)) (by simp [Act.put]) (by simp [Act.put]) hB9 Tryz.underlying351 rfl (by rw [vP]; rfl)) (by simp [Act.put]) ⟨?_,?_⟩
     · rw [HV.out,HS2.out]; rfl
     · exact ((HU4.out.setCell (.inr (by rw [HG0.out]; simp)) _).setCell (.inr (by rw [HG0.out]; simp)) _).setCell (.inr (by rw [HG0.out]; simp)) _
   · have h2z : ¬ (3:Int)≤(z:Int):=(by omega);(go_wp2_with fail);refine (xu 17 w2).mono ?_;rintro e w3 ⟨rfl,rfl⟩;rw [show Kx 17=3 from by decide];by_cases h3:3≤ag
     · have h3z:(3:Int)≤(ag:Int):=(by omega);(go_wp2_with fail);refine (xu 16 w2).mono ?_;rintro e w3 ⟨rfl,rfl⟩;rw [show Kx 16=3 from by decide];have HSP:=Hi (fun w'=>Jc 16 ag w' (by decide) (by show _≤ag; simp only [show runL' 16=3 from by decide]; omega) (by omega));have HV:Hid (yo l ahead=xW 16 ag):=Hi (by rw [HNX.out,if_neg h1,if_neg h2,if_pos h3]);unfold zbt at HSP;have HS2:Hid (xW 16 ag=(⟨16,vA 16,min ag (Jd 16)-runL' 16⟩,min ag (Jd 16))):=Hi rfl;generalize min ag (Jd 16)=q at *;generalize q-runL' 16=mo at *;generalize vA 16=bb at *;(go_wp2_with fail);refine (HSP.out w2).mono ?_;rintro e w4 ⟨rfl,hU4⟩;have hQ4:=HQ.out.upd hU4 (by simp);have HU4:=Hi (HU.out.then hU4);have fA:=hQ4.frz;have cA:=hQ4.all;have HQ4:=Hi hQ4;clear hU4 hQ4 HSP;go_wp2;have hB9:=((HQ4.out.set 0 (.int .i64 16)).set 1 (.int .i64 (bb:Nat))).set 2 (.int .i64 (mo:Nat));refine bodyPost_ret (qc rfl _ _ (g+1) _ _ _ _ (.int .i64 (q:Nat)) (by simp [Act.put]) (by simp [Act.put]) hB9 Tryz.underlying351 rfl (by rw [vP]; rfl)) (by simp [Act.put]) ⟨?_,?_⟩
       · rw [HV.out,HS2.out]; rfl
       · exact ((HU4.out.setCell (.inr (by rw [HG0.out]; simp)) _).setCell (.inr (by rw [HG0.out]; simp)) _).setCell (.inr (by rw [HG0.out]; simp)) _
     · have h3z : ¬ (3:Int)≤(ag:Int):=(by omega);(go_wp2_with fail);refine (xu 16 w2).mono ?_;rintro e w3 ⟨rfl,rfl⟩;rw [show Kx 16=3 from by decide];have HV:Hid (yo l ahead=(⟨(l.headD 0).toNat,0,0⟩,1)):=Hi (by rw [HNX.out,if_neg h1,if_neg h2,if_neg h3]);have hil:0<l.length:=(by rw [HLN.out]; omega);obtain ⟨b,off,rfl,hc1,_,_⟩:=HI2.out.cell 0 hil;have hhd:l.headD 0=l[0]:=(by cases l with | nil=>simp at hil | cons x r=>rfl);rw [hhd] at h0 HV;generalize l[0]=x at *;obtain ⟨v,rfl⟩ : ∃ v:Nat,x=(v:Int):=⟨x.toNat,by omega⟩;rw [Int.toNat_natCast] at HV;rw [Nat.add_zero] at hc1;have hp0:=HP.out.cell 0 rfl;have hQ4:=HQ.out;have fA:=hQ4.frz;have cA:=hQ4.all;have hnz:(0:Int)<(n:Int):=(by omega);clear hQ4 hhd hil;go_wp2;have hB9:=((HQ.out.set 0 (.int .i64 (v:Nat))).set 1 (.int .i64 0)).set 2 (.int .i64 0);refine bodyPost_ret (qc rfl _ _ (g+1) _ _ _ _ (.int .i64 1) (by simp [Act.put]) (by simp [Act.put]) hB9 Tryz.underlying351 rfl (by rw [vP]; rfl)) (by simp [Act.put]) ⟨?_,?_⟩
       · rw [HV.out]; rfl
       · exact ((HU.out.setCell (.inr (by rw [HG0.out]; simp)) _).setCell (.inr (by rw [HG0.out]; simp)) _).setCell (.inr (by rw [HG0.out]; simp)) _
end Go.Proofs.YtfkenhihcmmgkaaGreatDoor
