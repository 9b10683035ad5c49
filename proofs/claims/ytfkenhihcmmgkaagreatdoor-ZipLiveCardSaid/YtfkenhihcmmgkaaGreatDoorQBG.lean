/- Coins in memory: what lies where; the comparison of two; slices.Grow of nil. -/
import Derived.Lib.AppendZerosOnto
import Derived.Test.YtfkenhihcmmgkaaGreatDoorQBF
import Derived.Test.YtfkenhihcmmgkaaGreatDoorQAN
import Derived.Deep.Slices
import Derived.Deep.Fields
import Derived.ChangeSame
import Derived.ProofKit
import Derived.OpenShut
import Derived.Laws.AppendOwnNone
import Derived.Laws.EntriesVeiled
import Derived.Lib.SliceRun
set_option linter.unusedVariables false
set_option linter.unusedSimpArgs false
set_option linter.unusedSectionVars false
set_option maxRecDepth 100000
set_option maxHeartbeats 12800000
namespace Go.Proofs.YtfkenhihcmmgkaaGreatDoor
open Go.RowKit
def CoinAt (w:World):Value→Coin→Prop
 | p,.leaf wt s => ∃ b,p = .pointer (some ⟨b,0,none⟩)∧Blk w b [.int .i64 (wt:Nat),.int .i64 (s:Nat),.slice none 0 0] 386
 | p,.pack a c => ∃ (b g i cap:Nat) (pa pc:Value) (arr:Array Value) (fr:Nat×Nat),p = .pointer (some ⟨b,0,none⟩)∧Blk w b [.int .i64 ((a.w+c.w:Nat):Int),.int .i64 0,.slice (some ⟨g,i,none⟩) 2 cap] 386 ∧
  w.heap[g]? =some (.cells arr 384 fr)∧arr[i]? =some pa∧arr[i+1]? =some pc∧CoinAt w pa a∧CoinAt w pc c
def KeepC (w w':World):Prop := ∀ (k:Nat) (cs:Array Value) (t:TypeId) (fr:Nat×Nat),w.heap[k]? =some (.cells cs t fr)→t=386∨t=384→w'.heap[k]? =some (.cells cs t fr)
theorem KeepC.of_upd {w w':World} (h:Upd [] w w'):KeepC w w':=fun k cs t fr hk _=>(h.block k (Array.getElem?_eq_some_iff.1 hk).1 (by simp)).trans hk
theorem KeepC.trans {a b c:World} (h:KeepC a b) (k:KeepC b c):KeepC a c:=fun i cs t fr hi ht=>k i cs t fr (h i cs t fr hi ht) ht
theorem KeepC.of_ints {w w':World} {b:Nat} {cs:List Value} (hB:Blk w b cs 3) (h:Upd [b] w w'):KeepC w w':=fun k ds t fr hk ht=>by
 refine (h.block k (Array.getElem?_eq_some_iff.1 hk).1 (fun hm=>?_)).trans hk;have e:k=b:=by simpa using hm
 subst e;unfold Blk at hB;rw [hB] at hk;simp at hk;rcases ht with rfl | rfl
 · exact absurd hk.2.1 (by decide)
 · exact absurd hk.2.1 (by decide)
theorem CoinAt.keep {w w':World} (hk:KeepC w w') : ∀ {c:Coin} {p:Value},CoinAt w p c→CoinAt w' p c
 | .leaf wt s,p,h=>by
   obtain ⟨b,rfl,hB⟩:=h;exact ⟨b,rfl,hk b _ _ _ hB (.inl rfl)⟩
 | .pack a c,p,h=>by
   obtain ⟨b,g,i,cap,pa,pc,arr,fr,rfl,hB,hg,h1,h2,h3,h4⟩:=h;exact ⟨b,g,i,cap,pa,pc,arr,fr,rfl,hk b _ _ _ hB (.inl rfl),hk g _ _ _ hg (.inr rfl),h1,h2,CoinAt.keep hk h3,CoinAt.keep hk h4⟩
theorem CoinAt.upd {w w':World} (h:Upd [] w w') {c:Coin} {p:Value} (hc:CoinAt w p c):CoinAt w' p c:=hc.keep (KeepC.of_upd h)
theorem CoinAt.head {w:World} {c:Coin} {p:Value} (h:CoinAt w p c) : ∃ b u v,p = .pointer (some ⟨b,0,none⟩)∧Blk w b [.int .i64 (c.w:Nat),u,v] 386:=by
 cases c with
 | leaf wt s=>obtain ⟨b,rfl,hB⟩:=h; exact ⟨b,_,_,rfl,hB⟩
 | pack a c=>obtain ⟨b,g,i,cap,pa,pc,arr,fr,rfl,hB,_⟩:=h; exact ⟨b,_,_,rfl,hB⟩
def CoinsAt (w:World) (ps:List Value) (cs:List Coin):Prop:=ps.length=cs.length ∧ ∀ (i:Nat) (p:Value) (c:Coin),ps[i]? =some p→cs[i]? =some c→CoinAt w p c
theorem CoinsAt.nil (w:World):CoinsAt w [] []:=⟨rfl,fun i p c h=>by simp at h⟩
theorem CoinsAt.keep {w w':World} (hk:KeepC w w') {ps:List Value} {cs:List Coin} (h:CoinsAt w ps cs):CoinsAt w' ps cs:=⟨h.1,fun i p c h1 h2=>(h.2 i p c h1 h2).keep hk⟩
theorem CoinsAt.upd {w w':World} (hu:Upd [] w w') {ps:List Value} {cs:List Coin} (h:CoinsAt w ps cs):CoinsAt w' ps cs:=h.keep (KeepC.of_upd hu)
theorem CoinsAt.snoc {w:World} {ps:List Value} {cs:List Coin} {p:Value} {c:Coin} (h:CoinsAt w ps cs) (hc:CoinAt w p c):CoinsAt w (ps++[p]) (cs++[c]):=by
 refine ⟨by simp [h.1],fun i q d h1 h2=>?_⟩;by_cases hi:i<ps.length
 · rw [List.getElem?_append_left hi] at h1;rw [List.getElem?_append_left (by rw [← h.1]; exact hi)] at h2;exact h.2 i q d h1 h2
 · rw [List.getElem?_append_right (by omega)] at h1;rw [List.getElem?_append_right (by rw [← h.1]; omega),← h.1] at h2;cases hk:i-ps.length with
   | zero=>rw [hk] at h1 h2; simp at h1 h2; subst h1 h2; exact hc
   | succ k=>rw [hk] at h1; simp at h1
theorem CoinsAt.drop {w:World} {ps:List Value} {cs:List Coin} (h:CoinsAt w ps cs) (n:Nat):CoinsAt w (ps.drop n) (cs.drop n) :=
 ⟨by simp [h.1],fun i p c h1 h2=>h.2 (n+i) p c (by rw [← List.getElem?_drop]; exact h1) (by rw [← List.getElem?_drop]; exact h2)⟩
theorem CoinsAt.append {w:World} {ps qs:List Value} {cs ds:List Coin} (h:CoinsAt w ps cs) (k:CoinsAt w qs ds):CoinsAt w (ps++qs) (cs++ds):=by
 refine ⟨by simp [h.1,k.1],fun i q d h1 h2=>?_⟩;by_cases hi:i<ps.length
 · rw [List.getElem?_append_left hi] at h1;rw [List.getElem?_append_left (by rw [← h.1]; exact hi)] at h2;exact h.2 i q d h1 h2
 · rw [List.getElem?_append_right (by omega)] at h1;rw [List.getElem?_append_right (by rw [← h.1]; omega),← h.1] at h2;exact k.2 _ q d h1 h2
theorem zgS (p q:Value) (c d:Coin) (w:World) (hc:CoinAt w p c) (hd:CoinAt w q d) :
 Calls Tryz.prog 345 #[p,q] w fun e w'=>e = .returned (.bool (decide (c.w<d.w)))∧Upd [] w w':=by
 obtain ⟨b1,u1,v1,rfl,hB1⟩:=hc.head;obtain ⟨b2,u2,v2,rfl,hB2⟩:=hd.head;have c1:=hB1.cell 0 rfl;have c2:=hB2.cell 0 rfl;generalize c.w=m at *;generalize d.w=n at *;clear hB1 hB2 hc hd;have hdd:decide ((m:Int)<(n:Int))=decide (m<n):=by
  by_cases h:m<n
  · rw [decide_eq_true h,decide_eq_true (by omega)]
  · rw [decide_eq_false h,decide_eq_false (by omega)]
 have HDD:=Hi hdd;clear hdd;go_enter Tryz.func345,Tryz.ntmps345;go_wp2
 go_quiet (fail)
 go_wp2;go_ret;exact ⟨by first | rfl | rw [HDD.out] | (simp; done),(Upd.refl _ _).drewN _⟩
theorem Xz:(Tryz.prog.info? 384).map (fun i=>(i.zero,i.size,i.bytes))=some (some (.pointer none),1,8):=by kernel_rfl
def OwnC (w0 w:World) (v:Value) (xs:List Value):Prop:=Row w 384 1 v xs.length xs ∧ ∀ k,v.ownBlock=some k→w0.heap.size≤k
theorem OwnC.nil (w0 w:World):OwnC w0 w (.slice none 0 0) []:=⟨Row.nil _ _ _,fun k h=>by cases h⟩
theorem OwnC.upd {w0 w w':World} {v:Value} {xs:List Value} (h:OwnC w0 w v xs) (hu:Upd [] w w'):OwnC w0 w' v xs:=⟨h.1.upd hu (by simp),h.2⟩
theorem OwnC.app {w0 w w':World} {v v':Value} {xs ys:List Value} (h:OwnC w0 w v xs) (hu:Upd [] w0 w) (hR:Row w' 384 1 v' (xs.length+ys.length) (xs++ys)) (hU:Upd v.ownBlock.toList w w') (hT:Later w v v') :
 OwnC w0 w' v' (xs++ys)∧Upd [] w0 w':=by
 refine ⟨⟨by rw [List.length_append]; exact hR,fun k hk=>?_⟩,hu.trans hU (fun k hk => .inr (h.2 k (by simpa using hk)))⟩;rcases hT with h1 | ⟨g,h1,h2⟩
 · exact h.2 k (by rw [← h1]; exact hk)
 · rw [h1] at hk; simp at hk h2; have:=hu.size; omega
theorem OwnC.form {w0 w:World} {v:Value} {xs:List Value} (h:OwnC w0 w v xs) : ∃ a c,v = .slice a xs.length c:=h.1.form
theorem zat (n:Nat) (w:World) (h0:0<n) (hn:n≤1000000) :
 Calls Tryz.prog 362 #[.slice none 0 0,.int .i64 (n:Nat)] w fun e w' => ∃ v,e = .returned v∧OwnC w w' v []∧Upd [] w w' ∧ ∃ g c,v = .slice (some ⟨g,0,none⟩) 0 c:=by
 obtain ⟨i0,hi,hz0,hz1,hz2⟩:=info_parts Xz;have hold:(Builtin.firstCells i0.size 0 (.slice none 0 0)).run Tryz.prog w.drew = .ok ([]:List Value).toArray w.drew:=run_firstCells_none w.drew i0.size 0 0 0;have hGn:=grownCap_ge w n 0 384;have hGm:=grownCap_le_maxLen w n 0 384 (by unfold maxLen; omega);obtain ⟨Z,hZ⟩ : ∃ Z,([]:List Value).toArray++Builtin.zeroCells (Value.pointer none).cells n++Builtin.zeroCells (Value.pointer none).cells (grownCap w n 0 384-n)=Z:=⟨_,rfl⟩;have hrz : ∀ ty,(Builtin.append_ #[383,3] ty #[.slice none 0 0,.int .i64 (n:Int)]).run Tryz.prog w =
  .ok (.slice (some ⟨w.heap.size,0,none⟩) n (grownCap w n 0 384)) ((w.alloc (.cells Z 384)).drew):=fun ty=>by
  have h:=Lib.run_append_grow_zeros (P:=Tryz.prog) w 383 3 ty 384 i0 (.pointer none) .i64 .i64 Tryz.underlying383 Tryz.underlying3 hi hz0 none 0 0 [] hold n (by omega) (by omega) (by omega) (by omega) (by rw [hz2]; omega) (by rw [hz2]; exact growslice_fits (by omega) (by omega));rw [Nat.zero_add,hZ] at h;exact h
 have hZs:Z.size=grownCap w n 0 384:=by
  rw [← hZ];simp [Builtin.zeroCells,Value.cells];omega
 clear hZ;generalize grownCap w n 0 384=G at *;have HE:Hid (OwnC w ((w.alloc (.cells Z 384)).drew) (.slice (some ⟨w.heap.size,0,none⟩) 0 G) []):=Hi
  ⟨⟨rfl,.inr ⟨w.heap.size,G,Z,rfl,Nat.zero_le _,heap_alloc_new w _,Nat.zero_le _,hGm,by rw [hZs,Nat.mul_one],rfl⟩⟩,fun k hk=>by simp [Value.ownBlock] at hk; omega⟩
 clear hZs;unfold maxLen at hGm;have hnz : ¬ (n:Int)<0:=by omega
 have hnp:(0:Int)<(n:Int):=by omega
 clear hold hi hz0 hz1 hz2;go_enter Tryz.func362,Tryz.ntmps362;go_wp2_with (at_builtin; refine Lib.wpList_append_run _ rfl _ _ _ _ rfl _ _ rfl rfl _ _ (hrz _) ?_)
 go_ret;exact ⟨_,rfl,HE.out,((Upd.refl _ _).alloc _).drew,_,_,rfl⟩
end Go.Proofs.YtfkenhihcmmgkaaGreatDoor
namespace Go.Proofs.YtfkenhihcmmgkaaGreatDoor
open Go.ChangeShapes Go.WideShapes Go.Deep
theorem jf (b off k:Nat):(⟨b,off,none⟩:Addr).add k=⟨b,off+k,none⟩:=by unfold Addr.add; split<;>simp_all
theorem zef {w:World} {a:Addr} {u:Value} (h:w.cell? a=some u) : ∃ b off,a=⟨b,off,none⟩:=by
 obtain ⟨b,off,sp⟩:=a;cases sp with
 | none=>exact ⟨b,off,rfl⟩
 | some s =>
   exfalso;unfold World.cell? at h;split at h
   · simp at h
   · cases h
theorem add_zero (a:Addr):a.add 0=a:=by unfold Addr.add; simp
section
variable {H:Type} {enc:TypeId×Value→H} {P:Program} {w:World} {base:Nat} {spare:Nat→Bool} {held:Bool}
end
end Go.Proofs.YtfkenhihcmmgkaaGreatDoor
namespace Go.Proofs.YtfkenhihcmmgkaaGreatDoor
open Go.RowKit
def SlC (w:World) (v:Value) (xs:List Value):Prop := ∃ a c,v = .slice a xs.length c∧xs.length≤c∧(a=none→c=0) ∧ ∀ i,(hi:i<xs.length) → ∃ b o,a=some ⟨b,o,none⟩∧w.cell? ⟨b,o+i,none⟩=some xs[i]
theorem jk {w:World} {b o:Nat} {u:Value} (h:w.cell? ⟨b,o,none⟩=some u):b<w.heap.size:=World.block_lt_of_cell? w ⟨b,o,none⟩ h
theorem SlC.upd {w w':World} {v:Value} {xs:List Value} (h:SlC w v xs) (hu:Upd [] w w'):SlC w' v xs:=by
 obtain ⟨a,c,h1,h2,h3,h4⟩:=h;refine ⟨a,c,h1,h2,h3,fun i hi=>?_⟩;obtain ⟨b,o,e,hc⟩:=h4 i hi;exact ⟨b,o,e,(hu.at (jk hc) (by simp) (o+i)).trans hc⟩
theorem SlC.nil (w:World):SlC w (.slice none 0 0) []:=⟨none,0,rfl,Nat.le_refl _,fun _=>rfl,fun i hi=>by simp at hi⟩
theorem Row.slC {w:World} {e:TypeId} {v:Value} {n:Nat} {xs:List Value} (h:Row w e 1 v n xs):SlC w v xs:=by
 have hl:=h.len;rcases h.2 with ⟨rfl,h0⟩ | ⟨g,cap,cur,rfl,_,hh,hc,_,_,_⟩
 · have:xs=[]:=List.eq_nil_of_length_eq_zero (by omega);subst this;exact SlC.nil w
 · refine ⟨some ⟨g,0,none⟩,cap,by rw [hl,Nat.mul_one],by omega,(fun e=>by cases e),fun i hi=>⟨g,0,rfl,?_⟩⟩;rw [Nat.zero_add];exact h.cell i (List.getElem?_eq_getElem hi)
theorem OwnC.slC {w0 w:World} {v:Value} {xs:List Value} (h:OwnC w0 w v xs):SlC w v xs:=h.1.slC
theorem Xw (vs:List Value) (xss:List (List Value)) (q k:Nat) (w:World) (hB:Blk w q vs 383) (hk:vs.length=k) (hx:xss.length=k) (hk9:k≤9)
 (hS : ∀ (i:Nat) (v:Value) (x:List Value),vs[i]? =some v→xss[i]? =some x→SlC w v x) (hone : ∀ x∈xss,∀ u∈x,u.oneCell'=true) (h0:0<xss.flatten.length) (hm:xss.flatten.length≤100000) :
 Calls Tryz.prog 352 #[.slice (some ⟨q,0,none⟩) k k] w fun e w' => ∃ v,e = .returned v∧OwnC w w' v xss.flatten∧Upd [] w w':=by
 obtain ⟨i0,hi,hz0,hz1,hz2⟩:=info_parts Xz;have HB:=Hi hB;have HS:=Hi hS;have HKV:=Hi hk;have HONE:=Hi hone;have HKX:=Hi hx;have hsum : ∀ i,(xss.take i).flatten.length≤xss.flatten.length:=fun i=>by
  conv=>rhs; rw [← List.take_append_drop i xss,List.flatten_append,List.length_append]
  omega
 have HSM:=Hi hsum;obtain ⟨T,hT⟩ : ∃ T,xss.flatten.length=T:=⟨_,rfl⟩;rw [hT] at h0 hm HSM;have HT:=Hi hT;clear hB hS hk hx hsum hT hone;have hkz:(k:Int)≤9:=by omega
 have hTz:(0:Int)<(T:Int):=by omega
 go_enter Tryz.func352,Tryz.ntmps352;go_wp2;go_loopg [3,11] k (fun gg s3 s11 wr => ∃ i,i≤k∧gg=k-i∧s11 = .int .i64 (i:Nat)∧s3 = .int .i64 ((xss.take i).flatten.length:Nat)∧wr=w)
 case atStart=>exact ⟨0,Nat.zero_le _,rfl,rfl,by simp,rfl⟩
 case round =>
  obtain ⟨i,hin,rfl,rfl,rfl,hwr⟩:=hrel;subst hwr;have hsi:=HSM.out i;by_cases hc:i<k
  · have hcz:(i:Int)<(k:Int):=(by omega);have hi1:i<vs.length:=(by rw [HKV.out]; exact hc);have hi2:i<xss.length:=(by rw [HKX.out]; exact hc);have d:=HB.out.cell i (List.getElem?_eq_getElem hi1);obtain ⟨a1,c1,hv,hlc,han,hcl⟩:=HS.out i _ _ (List.getElem?_eq_getElem hi1) (List.getElem?_eq_getElem hi2);have hst:(xss.take (i+1)).flatten.length=(xss.take i).flatten.length+xss[i].length:=by
     rw [List.take_succ_eq_append_getElem hi2,List.flatten_append,List.length_append]; simp
    have hs2:=HSM.out (i+1);have HST:=Hi hst;rw [hst] at hs2;clear hcl hlc han;generalize vs[i]=V at *;subst hv;generalize xss[i].length=m at *;generalize (xss.take i).flatten.length=t at *;clear hst hi1 hi2;have d0:wr.cell? ⟨q,0+i,none⟩=some (.slice a1 m c1):=(by rw [Nat.zero_add]; exact d);go_wp2;go_roundg (k-(i+1))
    · exact ⟨i+1,by omega,rfl,by first | rfl | go_num,by rw [HST.out]; first | rfl | go_num,rfl⟩
    · omega
  · have hcz : ¬ (i:Int)<(k:Int):=(by omega);obtain rfl:i=k:=(by omega);have hfl:(xss.take i).flatten.length=T:=(by rw [List.take_of_length_le (by rw [HKX.out]; exact Nat.le_refl _),HT.out]);rw [hfl];clear hfl hsi;(go_wp2_with fail);refine (zat T _ h0 (by omega)).mono ?_;rintro e w1 ⟨v,rfl,hO1,hU1,gg,cc,rfl⟩;have HO1:=Hi hO1;have HU1:=Hi hU1;clear hO1 hU1;go_wp2;go_loopg [6,27] i (fun gg s6 s27 wx => ∃ j,j≤i∧gg=i-j∧s27 = .int .i64 (j:Nat)∧Hid (OwnC wr wx s6 (xss.take j).flatten)∧Hid (Upd [] wr wx))
    case atStart=>exact ⟨0,Nat.zero_le _,rfl,rfl,HO1,HU1⟩
    case round =>
     obtain ⟨wo,rfl⟩ : ∃ wo:World,wo=wr:=⟨_,rfl⟩;obtain ⟨j,hji,rfl,rfl,HO,HU⟩:=hrel;by_cases hc2:j<i
     · have hcz2:(j:Int)<(i:Int):=(by omega);have hi1:j<vs.length:=(by rw [HKV.out]; exact hc2);have hi2:j<xss.length:=(by rw [HKX.out]; exact hc2);have d:=(HB.out.upd HU.out (by simp)).cell j (List.getElem?_eq_getElem hi1);have hsl:=(HS.out j _ _ (List.getElem?_eq_getElem hi1) (List.getElem?_eq_getElem hi2)).upd HU.out;have HFT:Hid ((xss.take (j+1)).flatten=(xss.take j).flatten++xss[j]):=Hi (by
        rw [List.take_succ_eq_append_getElem hi2,List.flatten_append]; simp)
       have hs2:=HSM.out (j+1);rw [HFT.out,List.length_append] at hs2;generalize vs[j]=V at *;have HOX:=Hi (HONE.out _ (List.getElem_mem hi2));generalize xss[j]=X at *;generalize (xss.take j).flatten=F at *;obtain ⟨F2,hF2⟩ : ∃ F2,(xss.take (j+1)).flatten=F2:=⟨_,rfl⟩;rw [hF2] at HFT;have HF2:=Hi hF2;clear hF2;obtain ⟨a1,c1,hv,hlc,han,hcl⟩:=hsl;subst hv;have d0:=d;rw [← Nat.zero_add j] at d0;obtain ⟨va,vc,rfl⟩:=HO.out.form;obtain ⟨fl,hfl⟩ : ∃ fl,F.length=fl:=⟨_,rfl⟩;obtain ⟨xl,hxl⟩ : ∃ xl,X.length=xl:=⟨_,rfl⟩;rw [hfl,hxl] at hs2;rw [hfl] at HO ⊢;have HFL:=Hi hfl;have HXL:=Hi hxl;have hR5:=HO.out.1;rw [hfl] at hR5;clear hi1 hi2;cases a1 with
       | none =>
         have hc0:=han rfl;subst hc0;have hx0:xl=0:=(by omega);have hX:X=[]:=List.eq_nil_of_length_eq_zero (by omega);rw [hX,List.append_nil] at HFT;rw [hxl,hx0] at d d0;have HO2:=Hi HO.out;rw [← HFT.out] at HO2;clear hcl hlc hX hfl hxl han;(go_wp2_with (at_builtin; refine wpList_append_own_none rfl _ _ 383 rfl 0 384 i0 1 Tryz.underlying383 hi (.slice va fl vc) fl _ rfl hR5 rfl ?_));go_wp2;go_roundg (i-(j+1))
         · exact ⟨j+1,by omega,rfl,by first | rfl | go_num,Hi (by rw [HF2.out]; exact HO2.out),HU⟩
         · omega
       | some ad =>
         rw [hxl] at d d0;have hnw : ∀ t u,X[t]? =some u→wo.cell? (ad.add t)=some u:=fun t u ht=>by
          obtain ⟨ht1,ht2⟩:=List.getElem?_eq_some_iff.1 ht;obtain ⟨b,o,hbo,hcc⟩:=hcl t ht1;cases hbo;rw [jf,hcc,ht2]
         have HNW:=Hi hnw;clear hcl hlc han hnw;(go_wp2_with (at_builtin; refine zH _ rfl _ _ 383 rfl 384 i0 _ 1 8 Tryz.underlying383 hi hz0 hz1 hz2 rfl (by omega) (.slice va fl vc) fl _ rfl hR5 ad xl c1 X rfl (by rw [hxl,Nat.mul_one]) HNW.out HOX.out (by unfold maxLen; omega) (by omega) ?_));intro v4 w4 hR4 hU4 hT4;have hap:=HO.out.app HU.out (ys:=X) (by rw [HFL.out,HXL.out]; exact hR4) hU4 hT4;rw [← HFT.out] at hap;have HAP:=Hi hap;clear hR4 hU4 hT4 hap hR5;go_wp2;go_roundg (i-(j+1))
         · exact ⟨j+1,by omega,rfl,by first | rfl | go_num,Hi (by rw [HF2.out]; exact HAP.out.1),Hi HAP.out.2⟩
         · omega
     · have hcz2 : ¬ (j:Int)<(i:Int):=(by omega);obtain rfl:j=i:=(by omega);have hfl:(xss.take j).flatten=xss.flatten:=(by rw [List.take_of_length_le (by rw [HKX.out]; exact Nat.le_refl _)]);rw [hfl] at HO;clear hfl;go_wp2;go_ret;exact ⟨_,rfl,HO.out,HU.out⟩
def qE (L:List Nat):Coin→List Nat
 | .leaf _ s=>L.set s (L.getD s 0+1)
 | .pack a b=>qE (qE L a) b
theorem kr : ∀ (c:Coin) (L:List Nat),(qE L c).length=L.length
 | .leaf _ s,L=>by simp [qE]
 | .pack a b,L=>by rw [qE,kr b,kr a]
theorem XE : ∀ (c:Coin) (L:List Nat) (s:Nat),s<L.length→(qE L c).getD s 0=L.getD s 0+c.cnt s
 | .leaf _ q,L,s,h=>by
   simp only [qE,Coin.cnt];by_cases e:q=s
   · subst e; simp [List.getD_eq_getElem?_getD,h]
   · simp [List.getD_eq_getElem?_getD,List.getElem?_set,e]
 | .pack a b,L,s,h=>by
   rw [qE,XE b _ s (by rw [kr]; exact h),XE a L s h];simp only [Coin.cnt]; omega
def Coin.many:Coin→Nat
 | .leaf _ _=>1
 | .pack a b=>a.many+b.many
def Coin.syms (n:Nat):Coin→Prop
 | .leaf _ s=>s<n
 | .pack a b=>a.syms n∧b.syms n
theorem Blk.neT {w:World} {b b':Nat} {cs cs':List Value} {t t':TypeId} (h:Blk w b cs t) (h':Blk w b' cs' t') (ht:t≠t'):b≠b':=by
 intro e;subst e;unfold Blk at h h';rw [h] at h';simp at h';exact ht h'.2
theorem zbW (wt s:Nat) (p:Value) (L:List Nat) (n cap bx bc ob:Nat) (w:World) (hc:CoinAt w p (.leaf wt s)) (hs:s<n) (hL:L.length=n) (hB:Blk w ob (zl L) 3) (hx:Blk w bx [.slice (some ⟨ob,0,none⟩) n cap] 57) (hv:L.getD s 0≤1000000) :
 Calls Tryz.prog 346 #[p,.pointer (some ⟨bx,0,none⟩),.pointer (some ⟨bc,0,none⟩)] w fun e w'=>e = .returned (.tuple #[])∧Blk w' ob (zl (qE L (.leaf wt s))) 3∧Upd [ob] w w':=by
 obtain ⟨b,rfl,hb⟩:=hc;have x0:=hx.cell 0 rfl;have b1:=hb.cell 1 rfl;have b2:=hb.cell 2 rfl;have hn1:b≠ob:=hb.neT hB (by decide);have hn2:bx≠ob:=hx.neT hB (by decide);have hsl:s<L.length:=by omega
 have hget:L.getD s 0=L[s]:=by simp [List.getD_eq_getElem?_getD,hsl]
 have o0:=hB.cell s (zB L s L[s] (List.getElem?_eq_getElem hsl));have of:=hB.frz s;have HA:Hid (qE L (.leaf wt s)=L.set s (L[s]+1)):=Hi (by simp only [qE]; rw [hget]);rw [hget] at hv;generalize L[s]=q at *;have HB:=Hi hB;have HN1:=Hi hn1;have b2':(w.setCell ⟨ob,s,none⟩ (.int .i64 ((q:Int)+1))).cell? ⟨b,2,none⟩=some (.slice none 0 0):=(hb.setFar (a:=⟨ob,s,none⟩) _ hn1).cell 2 rfl;have x0s:(w.setCell ⟨ob,s,none⟩ (.int .i64 ((q:Int)+1))).drew.cell? ⟨bx,0,none⟩=some (.slice (some ⟨ob,0,none⟩) n cap):=(hx.setFar (a:=⟨ob,s,none⟩) _ hn2).drew.cell 0 rfl;have b1s:(w.setCell ⟨ob,s,none⟩ (.int .i64 ((q:Int)+1))).drew.cell? ⟨b,1,none⟩=some (.int .i64 (s:Nat)):=(hb.setFar (a:=⟨ob,s,none⟩) _ hn1).drew.cell 1 rfl;have hsz:(s:Int)<(n:Int):=by omega
 have hw1:IntKind.i64.wrap ((q:Int)+1)=(q:Int)+1:=IntWalk.i64_in _ (by omega);have hnil : ∀ w,(binOp .eql 383 (.slice none 0 0) (.slice none 0 0)).run Tryz.prog w = .ok (.bool true) w:=fun w=>Lib.run_eql_slice_nil w 383 384 none 0 0 0 0 Tryz.underlying383;clear hb hx hB hn1 hn2 hget hsl;go_enter Tryz.func346,Tryz.ntmps346;go_wp2_with fail
 refine wp_region_held_drew (S:=fun w'=>w'.cell? ⟨bx,0,none⟩=some (.slice (some ⟨ob,0,none⟩) n cap)∧w'.cell? ⟨b,1,none⟩=some (.int .i64 (s:Nat))) (by kernel_rfl) ⟨x0,b1⟩ (fun hHeld=>hdN ?_);refine hdT 0 (some 11) ?_ (hy:=by intro w0 hSw; have q0:=hSw.1; go_simp; try with_reducible rfl); refine hdT 1 (some 12) ?_;refine hdT 2 (some 13) ?_; refine hdT 3 (some 14) ?_;refine hdT 4 (some 15) ?_ (hy:=by intro w0 hSw; have q0:=hSw.2; go_simp; try with_reducible rfl); refine hdT 5 (some 16) ?_;refine hdO 6 (fun K hK=>?_);go_simp;skip;go_wp2;refine hK.out _ _ hHeld (fun hHeld=>hdN ?_);clear hK K;refine hdT 7 (some 18) ?_ (hy:=by intro w0 hSw; go_simp; all_goals rw [hw1]) (v := .int .i64 ((q:Int)+1)); refine hdT 8 (some 19) ?_;refine hdO 9 (fun K hK=>?_);go_simp;skip;go_wp2;refine hK.out _ _ ⟨x0s,b1s⟩ (fun hHeld=>hdN ?_);clear hK K;refine wpAnyH_done (by kernel_rfl) ?_ 0;go_wp2;refine wp_loop_rounds 1 ?_;rw [rounds_succ];go_wp2
 go_end0
 refine ⟨rfl,?_,((Upd.refl _ _).setCell (.inl (by simp)) _).drew⟩;rw [HA.out,xL];exact (HB.out.set s _).drew
theorem Xd : ∀ (c:Coin) (L:List Nat) (s:Nat),(qE L c).getD s 0≤L.getD s 0+c.many
 | .leaf _ q,L,s=>by
   simp only [qE,Coin.many];by_cases e:q=s
   · subst e;by_cases h:q<L.length
     · simp [List.getD_eq_getElem?_getD,h]
     · simp [List.getD_eq_getElem?_getD,h]
   · simp [List.getD_eq_getElem?_getD,List.getElem?_set,e]
 | .pack a b,L,s=>by
   have h1:=Xd a L s;have h2:=Xd b (qE L a) s;simp only [qE,Coin.many]; omega
theorem Zg (n cap bx bc ob:Nat) : ∀ (c:Coin) (p:Value) (L:List Nat) (w:World),CoinAt w p c→c.syms n→L.length=n→Blk w ob (zl L) 3→Blk w bx [.slice (some ⟨ob,0,none⟩) n cap] 57 →
 Blk w bc [.func (.func 346) #[] #[.pointer (some ⟨bx,0,none⟩),.pointer (some ⟨bc,0,none⟩)]] 390→(∀ s,L.getD s 0+c.many≤1000000) →
 Calls Tryz.prog 346 #[p,.pointer (some ⟨bx,0,none⟩),.pointer (some ⟨bc,0,none⟩)] w fun e w'=>e = .returned (.tuple #[])∧Blk w' ob (zl (qE L c)) 3∧Upd [ob] w w'
 | .leaf wt s,p,L,w,hc,hs,hL,hB,hx,hf,hv=>zbW wt s p L n cap bx bc ob w hc hs hL hB hx (by have:=hv s; omega)
 | .pack a d,p,L,w,hc,hs,hL,hB,hx,hf,hv=>by
   have ih1:=Zg n cap bx bc ob a;have ih2:=Zg n cap bx bc ob d;obtain ⟨b,g,i,k,pa,pc,arr,fr,rfl,hb,hg,ha1,ha2,hca,hcd⟩:=hc;have g1:w.cell? ⟨g,i,none⟩=some pa:=(by rw [cell_of_row w g i arr _ fr hg]; exact ha1);have g2:w.cell? ⟨g,i+1,none⟩=some pc:=(by rw [cell_of_row w g (i+1) arr _ fr hg]; exact ha2);have hgo:g≠ob:=by
    intro e;subst e;unfold Blk at hB;rw [hg] at hB;simp at hB
   have hn1:b≠ob:=hb.neT hB (by decide);have hn2:bx≠ob:=hx.neT hB (by decide);have hn3:bc≠ob:=hf.neT hB (by decide);have I1:=Hi (ih1 pa L w hca hs.1 hL hB hx hf (fun s=>by have:=hv s; simp only [Coin.many] at this; omega));have I2:=Hi (fun (w1:World) (h1:Blk w1 ob (zl (qE L a)) 3) (hu:Upd [ob] w w1) =>
    ih2 pc (qE L a) w1 (hcd.keep (KeepC.of_ints hB hu)) hs.2 (by rw [kr]; exact hL) h1 (hx.upd hu (by simpa using hn2)) (hf.upd hu (by simpa using hn3)) (fun s=>by have:=hv s; have:=Xd a L s; simp only [Coin.many] at *; omega))
   have HBb:=Hi hb;have HBf:=Hi hf;have HG2:=Hi g2;have HNE:=Hi (And.intro hgo (And.intro hn1 hn3));have x2:=hb.cell 2 rfl;have f0:=hf.cell 0 rfl;have hnil : ∀ w,(binOp .eql 383 (.slice (some ⟨g,i,none⟩) 2 k) (.slice none 0 0)).run Tryz.prog w = .ok (.bool false) w:=fun w=>Lib.run_eql_slice_nil w 383 384 (some ⟨g,i,none⟩) 2 k 0 0 Tryz.underlying383;have hA:Hid (qE L (.pack a d)=qE (qE L a) d):=Hi rfl;clear ih1 ih2 hca hcd hs hL hB hx hf hv hb hg ha1 ha2 g2 hgo hn1 hn2 hn3;go_enter Tryz.func346,Tryz.ntmps346;go_wp2;refine wp_loop_rounds 3 ?_;rw [rounds_succ];go_wp2_with fail
   refine I1.out.mono ?_;rintro e w1 ⟨rfl,hB1,hU1⟩;have f1:=(HBf.out.upd hU1 (by simpa using HNE.out.2.2)).cell 0 rfl;have g2:w1.cell? ⟨g,i+1,none⟩=some pc:=(hU1.at (World.block_lt_of_cell? w _ HG2.out) (by simpa using HNE.out.1) (i+1)).trans HG2.out;have I3:=Hi (I2.out w1 hB1 hU1);have HU1:=Hi hU1;clear hB1 hU1;go_wp2;rw [rounds_succ];go_wp2_with fail
   refine I3.out.mono ?_;rintro e w2 ⟨rfl,hB2,hU2⟩;have HB2:=Hi hB2;have HU2:=Hi (HU1.out.then hU2);clear hB2 hU2;go_wp2;rw [rounds_succ];go_wp2
   go_end0
   exact ⟨rfl,by rw [hA.out]; exact HB2.out,HU2.out⟩
end Go.Proofs.YtfkenhihcmmgkaaGreatDoor
namespace Go.Proofs.YtfkenhihcmmgkaaGreatDoor
theorem YM {a b:List Coin} {c:Coin} (h:c∈zT a b):c∈a∨c∈b:=by
 unfold zT at h;rwa [List.mem_merge] at h
theorem zaV (lv:List Coin) : ∀ j,(yb lv j).length≤2*lv.length
 | 0=>by simp [yb]
 | j+1=>by
   have:=zaV lv j;rw [yb,qX,xc];omega
theorem zch (lv:List Coin) (W:Nat) (h : ∀ c∈lv,c.w≤W) : ∀ j,∀ c∈yb lv j,c.w≤W*2^j
 | 0,c,hc=>by simp [yb] at hc
 | j+1,c,hc=>by
   have h2:W*2^(j+1)=W*2^j+W*2^j:=(by rw [Nat.pow_succ,← Nat.mul_assoc]; omega);have h3:W≤W*2^j:=Nat.le_mul_of_pos_right _ (Nat.pow_pos (by omega));rcases YM hc with hc | hc
   · have:=h c hc; omega
   · obtain ⟨a,b,ha,hb,rfl⟩:=Jo hc;have h4:=zch lv W h j a ha;have h5:=zch lv W h j b hb;show a.w+b.w≤_;omega
theorem Zf (lv:List Coin) (n:Nat) (h : ∀ c∈lv,c.syms n) : ∀ j,∀ c∈yb lv j,c.syms n
 | 0,c,hc=>by simp [yb] at hc
 | j+1,c,hc=>by
   rcases YM hc with hc | hc
   · exact h c hc
   · obtain ⟨a,b,ha,hb,rfl⟩:=Jo hc;exact ⟨Zf lv n h j a ha,Zf lv n h j b hb⟩
def jd (l:List Coin):Nat:=(l.map Coin.many).sum
theorem VG : ∀ l:List Coin,jd (yE l)≤jd l
 | []=>Nat.le_refl _
 | [_]=>by simp [yE,jd]
 | a::b::r=>by
   have:=VG r;simp only [yE,jd,List.map_cons,List.sum_cons,Coin.many] at *;omega
theorem zcK (a b:List Coin):jd (zT a b)=jd a+jd b:=by
 have h:(zT a b).Perm (a++b):=List.merge_perm_append _;unfold jd;rw [(h.map _).sum_nat,List.map_append,List.sum_append_nat]
theorem Ki (lv:List Coin) : ∀ j,jd (yb lv j)≤jd lv*j
 | 0=>by simp [yb,jd]
 | j+1=>by
   have h1:=Ki lv j;have h2:=VG (yb lv j);rw [yb,zcK,Nat.mul_add];omega
theorem zfN (l:List Coin) (k:Nat) (h:k<l.length):jd (l.take k)+l[k].many≤jd l:=by
 have:jd l=jd (l.take k)+jd (l.drop k):=by
  unfold jd;rw [← List.sum_append_nat,← List.map_append,List.take_append_drop]
 rw [this,List.drop_eq_getElem_cons h];show _≤_+((l[k]::List.drop (k+1) l).map Coin.many).sum;rw [List.map_cons,List.sum_cons];omega
def jb (l:List Nat) (cs:List Coin):List Nat:=cs.foldl (fun l c=>qE l c) l
theorem zck (l:List Nat) (cs:List Coin) (c:Coin):jb l (cs++[c])=qE (jb l cs) c:=by simp [jb]
theorem Jn : ∀ (cs:List Coin) (l:List Nat),(jb l cs).length=l.length
 | [],l=>rfl
 | c::cs,l=>by
   show (jb (qE l c) cs).length=_;rw [Jn cs,kr]
theorem VB : ∀ (cs:List Coin) (l:List Nat) (s:Nat),s<l.length→(jb l cs).getD s 0=l.getD s 0+jG s cs
 | [],l,s,h=>by simp [jb,jG]
 | c::cs,l,s,h=>by
   show (jb (qE l c) cs).getD s 0=_;rw [VB cs _ s (by rw [kr]; exact h),XE c l s h,Vx];omega
theorem za1 : ∀ (cs:List Coin) (l:List Nat) (s:Nat),(jb l cs).getD s 0≤l.getD s 0+jd cs
 | [],l,s=>by simp [jb,jd]
 | c::cs,l,s=>by
   have h1:=za1 cs (qE l c) s;have h2:=Xd c l s;show (jb (qE l c) cs).getD s 0≤_;have h3:jd (c::cs)=c.many+jd cs:=(by simp [jd]);omega
theorem zhk (many:List Int) (u:List Nat) (i:Nat) (h:i<u.length):lvs many (u.take (i+1))=lvs many (u.take i)++[.leaf (yy (many.getD u[i] 0)) u[i]]:=by
 unfold lvs;rw [List.take_succ_eq_append_getElem h,List.map_append];rfl
theorem zkB (many:List Int) (u:List Nat) : ∀ c∈lvs many u,c.w≤1073741824:=by
 intro c hc;unfold lvs at hc;obtain ⟨s,_,rfl⟩:=List.mem_map.1 hc;exact zbg _
theorem zhP (many:List Int) (u:List Nat) (n:Nat) (h : ∀ s∈u,s<n) : ∀ c∈lvs many u,c.syms n:=by
 intro c hc;unfold lvs at hc;obtain ⟨s,hs,rfl⟩:=List.mem_map.1 hc;exact h s hs
theorem zgq (many:List Int) (u:List Nat):jd (lvs many u)=u.length:=by
 unfold lvs jd
 induction u with
 | nil=>rfl
 | cons s r ih=>simp [Coin.many] at *; omega
theorem zgO (many:List Int) (u:List Nat) (L n:Nat):jb (List.replicate n 0) ((yb (lvs many u) L).take (2*u.length-2))=(List.range n).map fun s=>qF many u L s:=by
 apply List.ext_getElem?;intro s;by_cases h:s<n
 · have h1:=VB ((yb (lvs many u) L).take (2*u.length-2)) (List.replicate n 0) s (by simpa using h);have h2:s<(jb (List.replicate n 0) ((yb (lvs many u) L).take (2*u.length-2))).length:=(by rw [Jn]; simpa using h);rw [List.getD_eq_getElem?_getD,List.getElem?_eq_getElem h2] at h1;simp [List.getD_eq_getElem?_getD,h] at h1;rw [List.getElem?_eq_getElem h2,h1];simp [h,qF]
 · rw [List.getElem?_eq_none (by rw [Jn]; simpa using h),List.getElem?_eq_none (by simpa using h)]
end Go.Proofs.YtfkenhihcmmgkaaGreatDoor
