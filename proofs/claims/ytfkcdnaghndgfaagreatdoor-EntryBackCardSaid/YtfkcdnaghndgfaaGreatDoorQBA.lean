/- Lengths (plain): which symbols are used, in which order; the length of each; what lengths cost. -/
import Derived.Test.YtfkcdnaghndgfaaGreatDoorQAZ
import Derived.Test.YtfkcdnaghndgfaaGreatDoorQAB
import Derived.Lib.AppendZerosOnto
import Derived.Test.YtfkcdnaghndgfaaGreatDoorQAP
import Derived.Deep.Slices
import Derived.Deep.Fields
import Derived.ChangeSame
import Derived.ProofKit
import Derived.OpenShut
import Derived.Laws.AppendOwnNone
set_option linter.unusedVariables false
set_option linter.unusedSimpArgs false
set_option linter.unusedSectionVars false
namespace Go.Proofs.YtfkcdnaghndgfaaGreatDoor
def yr (n:Int):Nat:=(max 0 (min n 1073741824)).toNat
theorem zat (n:Int):yr n≤1073741824:=by unfold yr; omega
def Ahead (many:List Int) (a b:Nat):Prop:=yr (many.getD a 0)<yr (many.getD b 0)∨(yr (many.getD a 0)=yr (many.getD b 0)∧a<b)
theorem Ahead.irrefl {many:List Int} {a:Nat} : ¬ Ahead many a a:=fun h=>by rcases h with h | h<;>omega
theorem Ahead.asymm {many:List Int} {a b:Nat} (h:Ahead many a b) : ¬ Ahead many b a:=fun k=>by
 rcases h with h | h<;>rcases k with k | k<;>omega
theorem Ahead.ne {many:List Int} {a b:Nat} (h:Ahead many a b):a≠b:=fun e=>by subst e; exact h.irrefl
theorem Ahead.trans {many:List Int} {a b c:Nat} (h:Ahead many a b) (k:Ahead many b c):Ahead many a c:=by
 unfold Ahead at *; omega
structure IsUsed (many:List Int) (n:Nat) (u:List Nat):Prop where
 mem : ∀ i,i∈u↔i<n∧0<many.getD i 0
 srt:u.Pairwise (Ahead many)
theorem WD (many:List Int) : ∀ (u v:List Nat),u.Pairwise (Ahead many)→v.Pairwise (Ahead many)→(∀ i,i∈u↔i∈v)→u=v
 | [],[],_,_,_=>rfl
 | [],y::v,_,_,h=>absurd ((h y).2 List.mem_cons_self) (by simp)
 | x::u,[],_,_,h=>absurd ((h x).1 List.mem_cons_self) (by simp)
 | x::u,y::v,hu,hv,h=>by
   have hu':=List.pairwise_cons.1 hu
   have hv':=List.pairwise_cons.1 hv
   have e:x=y:=by
    rcases List.mem_cons.1 ((h x).1 List.mem_cons_self) with e | hx
    · exact e
    · rcases List.mem_cons.1 ((h y).2 List.mem_cons_self) with e | hy
      · exact e.symm
      · exact absurd (hu'.1 y hy) (hv'.1 x hx).asymm
   subst e
   rw [WD many u v hu'.2 hv'.2 fun i=>?_]
   constructor
   · intro hi
     rcases List.mem_cons.1 ((h i).1 (List.mem_cons_of_mem _ hi)) with e | hi'
     · exact absurd e.symm (hu'.1 i hi).ne
     · exact hi'
   · intro hi
     rcases List.mem_cons.1 ((h i).2 (List.mem_cons_of_mem _ hi)) with e | hi'
     · exact absurd e.symm (hv'.1 i hi).ne
     · exact hi'
theorem IsUsed.uniq {many:List Int} {n:Nat} {u v:List Nat} (h:IsUsed many n u) (k:IsUsed many n v):u=v :=
 WD many u v h.srt k.srt fun i=>(h.mem i).trans (k.mem i).symm
theorem IsUsed.nodup {many:List Int} {n:Nat} {u:List Nat} (h:IsUsed many n u):u.Nodup:=h.srt.imp Ahead.ne
theorem Yk {n:Nat} {u:List Nat} (hnd:u.Nodup) (hlt : ∀ s∈u,s<n):u.Perm ((List.range n).filter fun s=>decide (s∈u)):=by
 rw [List.perm_ext_iff_of_nodup hnd (List.nodup_range.filter _)]
 intro s
 rw [List.mem_filter,List.mem_range]
 simp only [decide_eq_true_eq]
 exact ⟨fun h=>⟨hlt s h,h⟩,fun h=>h.2⟩
theorem IsUsed.le {many:List Int} {n:Nat} {u:List Nat} (h:IsUsed many n u):u.length≤n:=by
 have h1:=(Yk h.nodup fun i hi=>((h.mem i).1 hi).1).length_eq
 have h2:=List.length_filter_le (fun s=>decide (s∈u)) (List.range n)
 rw [List.length_range] at h2
 omega
theorem IsUsed.nil (many:List Int):IsUsed many 0 []:=⟨fun i=>by simp,List.Pairwise.nil⟩
theorem IsUsed.skip {many:List Int} {n:Nat} {u:List Nat} (h:IsUsed many n u) (hn : ¬ 0<many.getD n 0):IsUsed many (n+1) u :=
 ⟨fun i=>by
  rw [h.mem]
  by_cases e:i=n
  · subst e; constructor
    · intro k; omega
    · intro k; exact absurd k.2 hn
  · constructor<;>intro k<;>exact ⟨by omega,k.2⟩,h.srt⟩
def lvs (many:List Int) (u:List Nat):List Coin:=u.map fun s => .leaf (yr (many.getD s 0)) s
theorem zcG (many:List Int) (u:List Nat):(lvs many u).length=u.length:=by simp [lvs]
theorem zgR {many:List Int} {u:List Nat} (h:u.Pairwise (Ahead many)):vD (lvs many u):=by
 unfold vD lvs
 rw [List.pairwise_map]
 exact h.imp fun hab=>by
  unfold Ahead at hab
  show yr _≤yr _
  omega
def qt (many:List Int) (u:List Nat) (L s:Nat):Nat:=jA s ((zW (lvs many u) L).take (2*u.length-2))
theorem zcV (n:Nat) (g:Nat→Nat) (u:List Nat) (hnd:u.Nodup) (hlt : ∀ s∈u,s<n) (h0 : ∀ s,s<n→s∉u→g s=0):yt n g=(u.map g).sum:=by
 rw [((Yk hnd hlt).map g).sum_nat]
 unfold yt
 have : ∀ l:List Nat,(∀ s∈l,s<n)→(l.map g).sum=((l.filter fun s=>decide (s∈u)).map g).sum:=by
  intro l
  induction l with
  | nil=>intro _; rfl
  | cons x r ih =>
    intro hl
    rw [List.map_cons,List.sum_cons,ih fun s hs=>hl s (List.mem_cons_of_mem _ hs),List.filter_cons]
    by_cases hx:x∈u
    · rw [if_pos (by simpa using hx),List.map_cons,List.sum_cons]
    · rw [if_neg (by simpa using hx),h0 x (hl x List.mem_cons_self) hx]; omega
 exact this _ fun s hs=>List.mem_range.1 hs
theorem zgC (u:List Nat) (g:Nat→Nat):(u.map g).sum=yt u.length (fun i=>g (u.getD i 0)):=by
 have h : ∀ m,m≤u.length→((u.take m).map g).sum=yt m (fun i=>g (u.getD i 0)):=by
  intro m
  induction m with
  | zero=>intro _; rfl
  | succ m ih =>
    intro hm
    rw [List.take_succ_eq_append_getElem (by omega),List.map_append,List.sum_append_nat,ih (by omega),yd]
    simp [List.getD_eq_getElem?_getD,List.getElem?_eq_getElem (show m<u.length by omega)]
 have h1:=h u.length (Nat.le_refl _)
 rwa [List.take_length] at h1
theorem VL (many:List Int) (u:List Nat) (L:Nat) (hs:u.Pairwise (Ahead many)) (h2:2≤u.length) (hL:u.length≤2^L) :
 2*u.length-2≤(zW (lvs many u) L).length ∧ ∃ c:Nat→Nat,(∀ i,i<u.length→1≤c i∧c i≤L)∧(∀ i k,i≤k→c k≤c i)∧yt u.length (fun i=>2^(L-c i))=2^L ∧
  (∀ i (h:i<u.length),qt many u L u[i]=c i)∧(∀ s,s∉u→qt many u L s=0) ∧
  ∀ ks:List Nat,ks.length=u.length→(∀ k∈ks,k≤L)→JC L ks≤2^L→yt u.length (fun i=>yr (many.getD (u.getD i 0) 0)*c i)≤yt u.length (fun i=>yr (many.getD (u.getD i 0) 0)*ks.getD i 0):=by
 have hr:=zgR hs
 have hnd:u.Nodup:=hs.imp Ahead.ne
 have hl:=zcG many u
 obtain ⟨h1,ts,t1,t2,t3,t4,t5,t6⟩:=zhd (lvs many u) hr L (by omega) (by omega)
 rw [hl] at h1 t3 t4 t5 t6
 have hlv : ∀ i,i<u.length→(lvs many u).getD i (.leaf 0 0) = .leaf (yr (many.getD (u.getD i 0) 0)) (u.getD i 0):=by
  intro i hi
  simp [lvs,List.getD_eq_getElem?_getD,hi]
 refine ⟨h1,xH ts,t4,fun i k hik=>zeT ts hik,t3,?_,?_,?_⟩
 · intro i hi
   unfold qt
   rw [t6]
   have e : ∀ m,m≤u.length→yt m (fun k=>((lvs many u).getD k (.leaf 0 0)).cnt u[i]*xH ts k)=if i<m then xH ts i else 0:=by
    intro m
    induction m with
    | zero=>intro _; simp [yt]
    | succ m ih =>
      intro hm
      rw [yd,ih (by omega),hlv m (by omega)]
      have hg:u.getD m 0=u[m]:=by rw [List.getD_eq_getElem?_getD,List.getElem?_eq_getElem (by omega)]; rfl
      rw [hg]
      simp only [Coin.cnt]
      by_cases e:i=m
      · subst e
        simp
      · have hne : ¬ u[m]=u[i]:=fun q=>e ((List.getElem_inj hnd).1 q.symm)
        by_cases h:i<m
        · simp [hne,h,show i<m+1 by omega]
        · simp [hne,h,show ¬ i<m+1 by omega]
   rw [e _ (Nat.le_refl _),if_pos hi]
 · intro s hs
   unfold qt
   rw [t6]
   have e:yt u.length (fun k=>((lvs many u).getD k (.leaf 0 0)).cnt s*xH ts k)=yt u.length (fun _=>0):=xU fun i hi=>by
    rw [hlv i hi]
    simp only [Coin.cnt]
    have hg:u.getD i 0=u[i]:=by rw [List.getD_eq_getElem?_getD,List.getElem?_eq_getElem hi]; rfl
    rw [hg,if_neg (fun q=>hs (by rw [← q]; exact List.getElem_mem hi)),Nat.zero_mul]
   rw [e,kY,Nat.mul_zero]
 · intro ks k1 k2 k3
   have h:=zeW (lvs many u) hr L ((lvs many u).zip ks) (by rw [List.map_fst_zip (by omega)]) (fun p hp=>k2 p.2 (List.of_mem_zip hp).2) (by
    have e:((lvs many u).zip ks).map (fun p=>2^(L-p.2))=ks.map fun k=>2^(L-k):=by
     rw [show (fun p:Coin×Nat=>2^(L-p.2))=(fun k=>2^(L-k))∘Prod.snd from rfl,← List.map_map,List.map_snd_zip (by omega)]
    rw [e]
    exact k3)
   rw [hl,t5] at h
   have e1:yt u.length (fun i=>((lvs many u).getD i (.leaf 0 0)).w*xH ts i)=yt u.length (fun i=>yr (many.getD (u.getD i 0) 0)*xH ts i):=xU fun i hi=>by rw [hlv i hi]; rfl
   rw [e1] at h
   have e2:(((lvs many u).zip ks).map fun p=>p.1.w*p.2).sum=yt u.length (fun i=>yr (many.getD (u.getD i 0) 0)*ks.getD i 0):=by
    have : ∀ m,m≤u.length→((((lvs many u).zip ks).take m).map fun p=>p.1.w*p.2).sum=yt m (fun i=>yr (many.getD (u.getD i 0) 0)*ks.getD i 0):=by
     intro m
     induction m with
     | zero=>intro _; rfl
     | succ m ih =>
       intro hm
       have hz:m<((lvs many u).zip ks).length:=by rw [List.length_zip,hl,k1]; omega
       rw [List.take_succ_eq_append_getElem hz,List.map_append,List.sum_append_nat,ih (by omega),yd,List.getElem_zip]
       have hv:=hlv m (by omega)
       rw [List.getD_eq_getElem?_getD,List.getElem?_eq_getElem (by omega)] at hv
       simp only [Option.getD_some] at hv
       rw [hv]
       simp [Coin.w,List.getD_eq_getElem?_getD,List.getElem?_eq_getElem (show m<ks.length by omega)]
    have h:=this u.length (Nat.le_refl _)
    rwa [List.take_of_length_le (by rw [List.length_zip,hl,k1]; omega)] at h
   rw [e2] at h
   exact h
end Go.Proofs.YtfkcdnaghndgfaaGreatDoor
namespace Go.Proofs.YtfkcdnaghndgfaaGreatDoor
open Go.RowKit
theorem zef (n:Int):max 0 (min n 1073741824)=((yr n:Nat):Int):=by unfold yr; omega
theorem Yb (n:Int) (w:World):Calls Tryz.prog 197 #[.int .i64 n] w fun e w'=>e = .returned (.int .i64 (yr n:Nat))∧w=w':=by
 have h:=zef n
 generalize yr n=N at *
 go_enter Tryz.func197,Tryz.ntmps197
 go_wp2
 go_ret
 exact ⟨rfl,rfl⟩
theorem zd8 (n:Int) (w:World):Calls Tryz.prog 224 #[.int .i64 n] w fun e w'=>e = .returned (.bool false)∧w=w':=by
 go_enter Tryz.func224,Tryz.ntmps224
 go_wp2
 go_ret
 exact ⟨rfl,rfl⟩
def QW (a b:Nat):Int:=if a<b then -1 else if b<a then 1 else 0
theorem JM (a b:Nat):(a<b∧QW a b = -1)∨(b<a∧QW a b=1)∨(a=b∧QW a b=0):=by
 unfold QW
 by_cases h:a<b
 · exact .inl ⟨h,if_pos h⟩
 · by_cases h2:b<a
   · exact .inr (.inl ⟨h2,by rw [if_neg h,if_pos h2]⟩)
   · exact .inr (.inr ⟨by omega,by rw [if_neg h,if_neg h2]⟩)
theorem Zk (a b:Nat) (w:World):Calls Tryz.prog 196 #[.int .i64 (a:Nat),.int .i64 (b:Nat)] w fun e w'=>e = .returned (.int .i64 (QW a b))∧w=w':=by
 have HN:=Lib.hid (fun n w=>zd8 n w)
 rcases JM a b with ⟨h,e⟩ | ⟨h,e⟩ | ⟨h,e⟩
 · rw [e]
   have hz:(a:Int)<(b:Int):=by omega
   go_enter Tryz.func196,Tryz.ntmps196
   go_wp2_with (go_at_call 224; refine (HN.out _ _).mono ?_; rintro e w' ⟨rfl,rfl⟩)
   go_ret
   exact ⟨rfl,rfl⟩
 · rw [e]
   have hz : ¬ (a:Int)<(b:Int):=by omega
   have hz2:(b:Int)<(a:Int):=by omega
   go_enter Tryz.func196,Tryz.ntmps196
   go_wp2_with (go_at_call 224; refine (HN.out _ _).mono ?_; rintro e w' ⟨rfl,rfl⟩)
   go_ret
   exact ⟨rfl,rfl⟩
 · rw [e]
   subst h
   have hz : ¬ (a:Int)<(a:Int):=by omega
   go_enter Tryz.func196,Tryz.ntmps196
   go_wp2_with (go_at_call 224; refine (HN.out _ _).mono ?_; rintro e w' ⟨rfl,rfl⟩)
   go_ret
   exact ⟨rfl,rfl⟩
def orN (x y:Int):Int:=if x=0 then y else x
theorem ziN (b:Nat) (x y:Int) (w:World) (h0:w.cell? ⟨b,0,none⟩=some (.int .i64 x)) (h1:w.cell? ⟨b,1,none⟩=some (.int .i64 y)) :
 Calls Tryz.prog 195 #[.slice (some ⟨b,0,none⟩) 2 2] w fun e w'=>e = .returned (.int .i64 (orN x y))∧w=w':=by
 have h01:w.cell? ⟨b,0+1,none⟩=some (.int .i64 y):=h1
 by_cases hx:x=0
 · have e:orN x y=y:=by unfold orN; rw [if_pos hx]
   rw [e]
   subst hx
   by_cases hy:y=0
   · subst hy
     go_enter Tryz.func195,Tryz.ntmps195
     go_wp2
     refine wp_loop_rounds 3 ?_
     rw [rounds_succ]
     go_wp2
     rw [rounds_succ]
     go_wp2
     rw [rounds_succ]
     go_wp2
     go_ret
     exact ⟨rfl,rfl⟩
   · have t1:(y != 0)=true:=by simpa using hy
     go_enter Tryz.func195,Tryz.ntmps195
     go_wp2
     refine wp_loop_rounds 3 ?_
     rw [rounds_succ]
     go_wp2
     rw [rounds_succ]
     go_wp2
     go_ret
     exact ⟨rfl,rfl⟩
 · have e:orN x y=x:=by unfold orN; rw [if_neg hx]
   rw [e]
   have t1:(x != 0)=true:=by simpa using hx
   go_enter Tryz.func195,Tryz.ntmps195
   go_wp2
   refine wp_loop_rounds 3 ?_
   rw [rounds_succ]
   go_wp2
   go_ret
   exact ⟨rfl,rfl⟩
end Go.Proofs.YtfkcdnaghndgfaaGreatDoor
namespace Go.Proofs.YtfkcdnaghndgfaaGreatDoor
open Go.RowKit
def CoinAt (w:World):Value→Coin→Prop
 | p,.leaf wt s => ∃ b,p = .pointer (some ⟨b,0,none⟩)∧Blk w b [.int .i64 (wt:Nat),.int .i64 (s:Nat),.slice none 0 0] 262
 | p,.pack a c => ∃ (b g i cap:Nat) (pa pc:Value) (arr:Array Value) (fr:Nat×Nat),p = .pointer (some ⟨b,0,none⟩)∧Blk w b [.int .i64 ((a.w+c.w:Nat):Int),.int .i64 0,.slice (some ⟨g,i,none⟩) 2 cap] 262 ∧
  w.heap[g]? =some (.cells arr 260 fr)∧arr[i]? =some pa∧arr[i+1]? =some pc∧CoinAt w pa a∧CoinAt w pc c
def KeepC (w w':World):Prop := ∀ (k:Nat) (cs:Array Value) (t:TypeId) (fr:Nat×Nat),w.heap[k]? =some (.cells cs t fr)→t=262∨t=260→w'.heap[k]? =some (.cells cs t fr)
theorem KeepC.of_upd {w w':World} (h:Upd [] w w'):KeepC w w':=fun k cs t fr hk _=>(h.block k (Array.getElem?_eq_some_iff.1 hk).1 (by simp)).trans hk
theorem KeepC.trans {a b c:World} (h:KeepC a b) (k:KeepC b c):KeepC a c:=fun i cs t fr hi ht=>k i cs t fr (h i cs t fr hi ht) ht
theorem KeepC.of_ints {w w':World} {b:Nat} {cs:List Value} (hB:Blk w b cs 3) (h:Upd [b] w w'):KeepC w w':=fun k ds t fr hk ht=>by
 refine (h.block k (Array.getElem?_eq_some_iff.1 hk).1 (fun hm=>?_)).trans hk
 have e:k=b:=by simpa using hm
 subst e
 unfold Blk at hB
 rw [hB] at hk
 simp at hk
 rcases ht with rfl | rfl
 · exact absurd hk.2.1 (by decide)
 · exact absurd hk.2.1 (by decide)
theorem CoinAt.keep {w w':World} (hk:KeepC w w') : ∀ {c:Coin} {p:Value},CoinAt w p c→CoinAt w' p c
 | .leaf wt s,p,h=>by
   obtain ⟨b,rfl,hB⟩:=h
   exact ⟨b,rfl,hk b _ _ _ hB (.inl rfl)⟩
 | .pack a c,p,h=>by
   obtain ⟨b,g,i,cap,pa,pc,arr,fr,rfl,hB,hg,h1,h2,h3,h4⟩:=h
   exact ⟨b,g,i,cap,pa,pc,arr,fr,rfl,hk b _ _ _ hB (.inl rfl),hk g _ _ _ hg (.inr rfl),h1,h2,CoinAt.keep hk h3,CoinAt.keep hk h4⟩
theorem CoinAt.upd {w w':World} (h:Upd [] w w') {c:Coin} {p:Value} (hc:CoinAt w p c):CoinAt w' p c:=hc.keep (KeepC.of_upd h)
theorem CoinAt.head {w:World} {c:Coin} {p:Value} (h:CoinAt w p c) : ∃ b u v,p = .pointer (some ⟨b,0,none⟩)∧Blk w b [.int .i64 (c.w:Nat),u,v] 262:=by
 cases c with
 | leaf wt s=>obtain ⟨b,rfl,hB⟩:=h; exact ⟨b,_,_,rfl,hB⟩
 | pack a c=>obtain ⟨b,g,i,cap,pa,pc,arr,fr,rfl,hB,_⟩:=h; exact ⟨b,_,_,rfl,hB⟩
def CoinsAt (w:World) (ps:List Value) (cs:List Coin):Prop:=ps.length=cs.length ∧ ∀ (i:Nat) (p:Value) (c:Coin),ps[i]? =some p→cs[i]? =some c→CoinAt w p c
theorem CoinsAt.nil (w:World):CoinsAt w [] []:=⟨rfl,fun i p c h=>by simp at h⟩
theorem CoinsAt.keep {w w':World} (hk:KeepC w w') {ps:List Value} {cs:List Coin} (h:CoinsAt w ps cs):CoinsAt w' ps cs:=⟨h.1,fun i p c h1 h2=>(h.2 i p c h1 h2).keep hk⟩
theorem CoinsAt.upd {w w':World} (hu:Upd [] w w') {ps:List Value} {cs:List Coin} (h:CoinsAt w ps cs):CoinsAt w' ps cs:=h.keep (KeepC.of_upd hu)
theorem CoinsAt.snoc {w:World} {ps:List Value} {cs:List Coin} {p:Value} {c:Coin} (h:CoinsAt w ps cs) (hc:CoinAt w p c):CoinsAt w (ps++[p]) (cs++[c]):=by
 refine ⟨by simp [h.1],fun i q d h1 h2=>?_⟩
 by_cases hi:i<ps.length
 · rw [List.getElem?_append_left hi] at h1
   rw [List.getElem?_append_left (by rw [← h.1]; exact hi)] at h2
   exact h.2 i q d h1 h2
 · rw [List.getElem?_append_right (by omega)] at h1
   rw [List.getElem?_append_right (by rw [← h.1]; omega),← h.1] at h2
   cases hk:i-ps.length with
   | zero=>rw [hk] at h1 h2; simp at h1 h2; subst h1 h2; exact hc
   | succ k=>rw [hk] at h1; simp at h1
theorem CoinsAt.drop {w:World} {ps:List Value} {cs:List Coin} (h:CoinsAt w ps cs) (n:Nat):CoinsAt w (ps.drop n) (cs.drop n) :=
 ⟨by simp [h.1],fun i p c h1 h2=>h.2 (n+i) p c (by rw [← List.getElem?_drop]; exact h1) (by rw [← List.getElem?_drop]; exact h2)⟩
theorem CoinsAt.append {w:World} {ps qs:List Value} {cs ds:List Coin} (h:CoinsAt w ps cs) (k:CoinsAt w qs ds):CoinsAt w (ps++qs) (cs++ds):=by
 refine ⟨by simp [h.1,k.1],fun i q d h1 h2=>?_⟩
 by_cases hi:i<ps.length
 · rw [List.getElem?_append_left hi] at h1
   rw [List.getElem?_append_left (by rw [← h.1]; exact hi)] at h2
   exact h.2 i q d h1 h2
 · rw [List.getElem?_append_right (by omega)] at h1
   rw [List.getElem?_append_right (by rw [← h.1]; omega),← h.1] at h2
   exact k.2 _ q d h1 h2
theorem zge (p q:Value) (c d:Coin) (w:World) (hc:CoinAt w p c) (hd:CoinAt w q d) :
 Calls Tryz.prog 217 #[p,q] w fun e w'=>e = .returned (.bool (decide (c.w<d.w)))∧Upd [] w w':=by
 obtain ⟨b1,u1,v1,rfl,hB1⟩:=hc.head
 obtain ⟨b2,u2,v2,rfl,hB2⟩:=hd.head
 have c1:=hB1.cell 0 rfl
 have c2:=hB2.cell 0 rfl
 generalize c.w=m at *
 generalize d.w=n at *
 clear hB1 hB2 hc hd
 have hdd:decide ((m:Int)<(n:Int))=decide (m<n):=by
  by_cases h:m<n
  · rw [decide_eq_true h,decide_eq_true (by omega)]
  · rw [decide_eq_false h,decide_eq_false (by omega)]
 have HDD:=Lib.hid hdd
 clear hdd
 go_enter Tryz.func217,Tryz.ntmps217
 go_wp2
 go_quiet (fail)
 go_wp2
 go_ret
 exact ⟨by first | rfl | rw [HDD.out] | (simp; done),(Upd.refl _ _).drewN _⟩
theorem XD:(Tryz.prog.info? 260).map (fun i=>(i.zero,i.size,i.bytes))=some (some (.pointer none),1,8):=by kernel_rfl
def OwnC (w0 w:World) (v:Value) (xs:List Value):Prop:=Row w 260 1 v xs.length xs ∧ ∀ k,v.ownBlock=some k→w0.heap.size≤k
theorem OwnC.nil (w0 w:World):OwnC w0 w (.slice none 0 0) []:=⟨Row.nil _ _ _,fun k h=>by cases h⟩
theorem OwnC.upd {w0 w w':World} {v:Value} {xs:List Value} (h:OwnC w0 w v xs) (hu:Upd [] w w'):OwnC w0 w' v xs:=⟨h.1.upd hu (by simp),h.2⟩
theorem OwnC.app {w0 w w':World} {v v':Value} {xs ys:List Value} (h:OwnC w0 w v xs) (hu:Upd [] w0 w) (hR:Row w' 260 1 v' (xs.length+ys.length) (xs++ys)) (hU:Upd v.ownBlock.toList w w') (hT:Later w v v') :
 OwnC w0 w' v' (xs++ys)∧Upd [] w0 w':=by
 refine ⟨⟨by rw [List.length_append]; exact hR,fun k hk=>?_⟩,hu.trans hU (fun k hk => .inr (h.2 k (by simpa using hk)))⟩
 rcases hT with h1 | ⟨g,h1,h2⟩
 · exact h.2 k (by rw [← h1]; exact hk)
 · rw [h1] at hk; simp at hk h2; have:=hu.size; omega
theorem OwnC.form {w0 w:World} {v:Value} {xs:List Value} (h:OwnC w0 w v xs) : ∃ a c,v = .slice a xs.length c:=h.1.form
set_option maxRecDepth 100000 in
set_option maxHeartbeats 3200000 in
theorem KZ (n:Nat) (w:World) (h0:0<n) (hn:n≤1000000) :
 Calls Tryz.prog 245 #[.slice none 0 0,.int .i64 (n:Nat)] w fun e w' => ∃ v,e = .returned v∧OwnC w w' v []∧Upd [] w w' ∧ ∃ g c,v = .slice (some ⟨g,0,none⟩) 0 c:=by
 obtain ⟨i0,hi,hz0,hz1,hz2⟩:=info_parts XD
 have hold:(Builtin.firstCells i0.size 0 (.slice none 0 0)).run Tryz.prog w.drew = .ok ([]:List Value).toArray w.drew:=run_firstCells_none w.drew i0.size 0 0 0
 have hGn:=grownCap_ge w n 0 260
 have hGm:=grownCap_le_maxLen w n 0 260 (by unfold maxLen; omega)
 obtain ⟨Z,hZ⟩ : ∃ Z,([]:List Value).toArray++Builtin.zeroCells (Value.pointer none).cells n++Builtin.zeroCells (Value.pointer none).cells (grownCap w n 0 260-n)=Z:=⟨_,rfl⟩
 have hrz : ∀ ty,(Builtin.append_ #[259,3] ty #[.slice none 0 0,.int .i64 (n:Int)]).run Tryz.prog w =
  .ok (.slice (some ⟨w.heap.size,0,none⟩) n (grownCap w n 0 260)) ((w.alloc (.cells Z 260)).drew):=fun ty=>by
  have h:=Lib.run_append_grow_zeros (P:=Tryz.prog) w 259 3 ty 260 i0 (.pointer none) .i64 .i64 Tryz.underlying259 Tryz.underlying3 hi hz0 none 0 0 [] hold n (by omega) (by omega) (by omega) (by omega) (by rw [hz2]; omega) (by rw [hz2]; exact growslice_fits (by omega) (by omega))
  rw [Nat.zero_add,hZ] at h
  exact h
 have hZs:Z.size=grownCap w n 0 260:=by
  rw [← hZ]
  simp [Builtin.zeroCells,Value.cells]
  omega
 clear hZ
 generalize grownCap w n 0 260=G at *
 have HE:Hid (OwnC w ((w.alloc (.cells Z 260)).drew) (.slice (some ⟨w.heap.size,0,none⟩) 0 G) []):=Lib.hid
  ⟨⟨rfl,.inr ⟨w.heap.size,G,Z,rfl,Nat.zero_le _,heap_alloc_new w _,Nat.zero_le _,hGm,by rw [hZs,Nat.mul_one],rfl⟩⟩,fun k hk=>by simp [Value.ownBlock] at hk; omega⟩
 clear hZs
 unfold maxLen at hGm
 have hnz : ¬ (n:Int)<0:=by omega
 have hnp:(0:Int)<(n:Int):=by omega
 clear hold hi hz0 hz1 hz2
 go_enter Tryz.func245,Tryz.ntmps245
 go_wp2_with (at_builtin; refine Lib.wpList_append_run _ rfl _ _ _ _ rfl _ _ rfl rfl _ _ (hrz _) ?_)
 go_ret
 exact ⟨_,rfl,HE.out,((Upd.refl _ _).alloc _).drew,_,_,rfl⟩
end Go.Proofs.YtfkcdnaghndgfaaGreatDoor
namespace Go.Proofs.YtfkcdnaghndgfaaGreatDoor
open Go.ChangeShapes Go.WideShapes Go.Deep
theorem kx (b off k:Nat):(⟨b,off,none⟩:Addr).add k=⟨b,off+k,none⟩:=by unfold Addr.add; split<;>simp_all
theorem add_zero (a:Addr):a.add 0=a:=by unfold Addr.add; simp
section
variable {H:Type} {enc:TypeId×Value→H} {P:Program} {w:World} {base:Nat} {spare:Nat→Bool} {held:Bool}
theorem zfo {t:TypeId} {fs:Array Field} {fuel:Nat} {cs:List Value} {x:DataW H×List MemPlace} (he:P.underlying t=some (.struct fs)) (hone:oneCellFields P fs=true) (hlen:cs.length=fs.size)
 (h:DataW.trod enc P w base spare held fuel t cs=some x) :
 ∃ n,∀ (j:Nat) (f:Field),fs[j]? =some f → ∃ u y,cs[j]? =some u∧DataW.trod enc P w base spare held n f.type [u]=some y:=by
 obtain ⟨ys,k,_,_,_,hyl,hf⟩:=DataW.trod_struct he h
 refine ⟨k,fun j f hj=>?_⟩
 obtain ⟨ho,hk⟩:=hone_of hone j f hj
 have hjl:j<fs.size:=(Array.getElem?_eq_some_iff.1 hj).1
 have hd:=hf j f hj
 rw [ho,hk,List.drop_eq_getElem_cons (by omega)] at hd
 refine ⟨cs[j]'(by omega),ys[j]'(by omega),List.getElem?_eq_getElem (by omega),?_⟩
 rw [List.getElem?_eq_getElem (by omega)] at hd; exact hd
end
end Go.Proofs.YtfkcdnaghndgfaaGreatDoor
namespace Go.Proofs.YtfkcdnaghndgfaaGreatDoor
open Go.RowKit
def SlC (w:World) (v:Value) (xs:List Value):Prop := ∃ a c,v = .slice a xs.length c∧xs.length≤c∧(a=none→c=0) ∧ ∀ i,(hi:i<xs.length) → ∃ b o,a=some ⟨b,o,none⟩∧w.cell? ⟨b,o+i,none⟩=some xs[i]
theorem jc {w:World} {b o:Nat} {u:Value} (h:w.cell? ⟨b,o,none⟩=some u):b<w.heap.size:=World.block_lt_of_cell? w ⟨b,o,none⟩ h
theorem SlC.upd {w w':World} {v:Value} {xs:List Value} (h:SlC w v xs) (hu:Upd [] w w'):SlC w' v xs:=by
 obtain ⟨a,c,h1,h2,h3,h4⟩:=h
 refine ⟨a,c,h1,h2,h3,fun i hi=>?_⟩
 obtain ⟨b,o,e,hc⟩:=h4 i hi
 exact ⟨b,o,e,(hu.at (jc hc) (by simp) (o+i)).trans hc⟩
theorem SlC.nil (w:World):SlC w (.slice none 0 0) []:=⟨none,0,rfl,Nat.le_refl _,fun _=>rfl,fun i hi=>by simp at hi⟩
theorem Row.slC {w:World} {e:TypeId} {v:Value} {n:Nat} {xs:List Value} (h:Row w e 1 v n xs):SlC w v xs:=by
 have hl:=h.len
 rcases h.2 with ⟨rfl,h0⟩ | ⟨g,cap,cur,rfl,_,hh,hc,_,_,_⟩
 · have:xs=[]:=List.eq_nil_of_length_eq_zero (by omega)
   subst this
   exact SlC.nil w
 · refine ⟨some ⟨g,0,none⟩,cap,by rw [hl,Nat.mul_one],by omega,(fun e=>by cases e),fun i hi=>⟨g,0,rfl,?_⟩⟩
   rw [Nat.zero_add]
   exact h.cell i (List.getElem?_eq_getElem hi)
theorem OwnC.slC {w0 w:World} {v:Value} {xs:List Value} (h:OwnC w0 w v xs):SlC w v xs:=h.1.slC
set_option maxRecDepth 100000 in
set_option maxHeartbeats 6400000 in
theorem Xl (vs:List Value) (xss:List (List Value)) (q k:Nat) (w:World) (hB:Blk w q vs 259) (hk:vs.length=k) (hx:xss.length=k) (hk9:k≤9)
 (hS : ∀ (i:Nat) (v:Value) (x:List Value),vs[i]? =some v→xss[i]? =some x→SlC w v x) (hone : ∀ x∈xss,∀ u∈x,u.oneCell'=true) (h0:0<xss.flatten.length) (hm:xss.flatten.length≤100000) :
 Calls Tryz.prog 231 #[.slice (some ⟨q,0,none⟩) k k] w fun e w' => ∃ v,e = .returned v∧OwnC w w' v xss.flatten∧Upd [] w w':=by
 obtain ⟨i0,hi,hz0,hz1,hz2⟩:=info_parts XD
 have HB:=Lib.hid hB
 have HS:=Lib.hid hS
 have HKV:=Lib.hid hk
 have HONE:=Lib.hid hone
 have HKX:=Lib.hid hx
 have hsum : ∀ i,(xss.take i).flatten.length≤xss.flatten.length:=fun i=>by
  conv=>rhs; rw [← List.take_append_drop i xss,List.flatten_append,List.length_append]
  omega
 have HSM:=Lib.hid hsum
 obtain ⟨T,hT⟩ : ∃ T,xss.flatten.length=T:=⟨_,rfl⟩
 rw [hT] at h0 hm HSM
 have HT:=Lib.hid hT
 clear hB hS hk hx hsum hT hone
 have hkz:(k:Int)≤9:=by omega
 have hTz:(0:Int)<(T:Int):=by omega
 go_enter Tryz.func231,Tryz.ntmps231
 go_wp2
 go_loopg [3,11] k (fun gg s3 s11 wr => ∃ i,i≤k∧gg=k-i∧s11 = .int .i64 (i:Nat)∧s3 = .int .i64 ((xss.take i).flatten.length:Nat)∧wr=w)
 case atStart=>exact ⟨0,Nat.zero_le _,rfl,rfl,by simp,rfl⟩
 case round =>
  obtain ⟨i,hin,rfl,rfl,rfl,hwr⟩:=hrel
  subst hwr
  have hsi:=HSM.out i
  by_cases hc:i<k
  · have hcz:(i:Int)<(k:Int):=by omega
    have hi1:i<vs.length:=by rw [HKV.out]; exact hc
    have hi2:i<xss.length:=by rw [HKX.out]; exact hc
    have d:=HB.out.cell i (List.getElem?_eq_getElem hi1)
    obtain ⟨a1,c1,hv,hlc,han,hcl⟩:=HS.out i _ _ (List.getElem?_eq_getElem hi1) (List.getElem?_eq_getElem hi2)
    have hst:(xss.take (i+1)).flatten.length=(xss.take i).flatten.length+xss[i].length:=by
     rw [List.take_succ_eq_append_getElem hi2,List.flatten_append,List.length_append]; simp
    have hs2:=HSM.out (i+1)
    have HST:=Lib.hid hst
    rw [hst] at hs2
    clear hcl hlc han
    generalize vs[i]=V at *
    subst hv
    generalize xss[i].length=m at *
    generalize (xss.take i).flatten.length=t at *
    clear hst hi1 hi2
    have d0:wr.cell? ⟨q,0+i,none⟩=some (.slice a1 m c1):=by rw [Nat.zero_add]; exact d
    go_wp2
    go_roundg (k-(i+1))
    · exact ⟨i+1,by omega,rfl,by first | rfl | go_num,by rw [HST.out]; first | rfl | go_num,rfl⟩
    · omega
  · have hcz : ¬ (i:Int)<(k:Int):=by omega
    obtain rfl:i=k:=by omega
    have hfl:(xss.take i).flatten.length=T:=by rw [List.take_of_length_le (by rw [HKX.out]; exact Nat.le_refl _),HT.out]
    rw [hfl]
    clear hfl hsi
    go_wp2_with fail
    refine (KZ T _ h0 (by omega)).mono ?_
    rintro e w1 ⟨v,rfl,hO1,hU1,gg,cc,rfl⟩
    have HO1:=Lib.hid hO1
    have HU1:=Lib.hid hU1
    clear hO1 hU1
    go_wp2
    go_loopg [6,27] i (fun gg s6 s27 wx => ∃ j,j≤i∧gg=i-j∧s27 = .int .i64 (j:Nat)∧Hid (OwnC wr wx s6 (xss.take j).flatten)∧Hid (Upd [] wr wx))
    case atStart=>exact ⟨0,Nat.zero_le _,rfl,rfl,HO1,HU1⟩
    case round =>
     obtain ⟨wo,rfl⟩ : ∃ wo:World,wo=wr:=⟨_,rfl⟩
     obtain ⟨j,hji,rfl,rfl,HO,HU⟩:=hrel
     by_cases hc2:j<i
     · have hcz2:(j:Int)<(i:Int):=by omega
       have hi1:j<vs.length:=by rw [HKV.out]; exact hc2
       have hi2:j<xss.length:=by rw [HKX.out]; exact hc2
       have d:=(HB.out.upd HU.out (by simp)).cell j (List.getElem?_eq_getElem hi1)
       have hsl:=(HS.out j _ _ (List.getElem?_eq_getElem hi1) (List.getElem?_eq_getElem hi2)).upd HU.out
       have HFT:Hid ((xss.take (j+1)).flatten=(xss.take j).flatten++xss[j]):=Lib.hid (by
        rw [List.take_succ_eq_append_getElem hi2,List.flatten_append]; simp)
       have hs2:=HSM.out (j+1)
       rw [HFT.out,List.length_append] at hs2
       generalize vs[j]=V at *
       have HOX:=Lib.hid (HONE.out _ (List.getElem_mem hi2))
       generalize xss[j]=X at *
       generalize (xss.take j).flatten=F at *
       obtain ⟨F2,hF2⟩ : ∃ F2,(xss.take (j+1)).flatten=F2:=⟨_,rfl⟩
       rw [hF2] at HFT
       have HF2:=Lib.hid hF2
       clear hF2
       obtain ⟨a1,c1,hv,hlc,han,hcl⟩:=hsl
       subst hv
       have d0:=d
       rw [← Nat.zero_add j] at d0
       obtain ⟨va,vc,rfl⟩:=HO.out.form
       obtain ⟨fl,hfl⟩ : ∃ fl,F.length=fl:=⟨_,rfl⟩
       obtain ⟨xl,hxl⟩ : ∃ xl,X.length=xl:=⟨_,rfl⟩
       rw [hfl,hxl] at hs2
       rw [hfl] at HO ⊢
       have HFL:=Lib.hid hfl
       have HXL:=Lib.hid hxl
       have hR5:=HO.out.1
       rw [hfl] at hR5
       clear hi1 hi2
       cases a1 with
       | none =>
         have hc0:=han rfl
         subst hc0
         have hx0:xl=0:=by omega
         have hX:X=[]:=List.eq_nil_of_length_eq_zero (by omega)
         rw [hX,List.append_nil] at HFT
         rw [hxl,hx0] at d d0
         have HO2:=Lib.hid HO.out
         rw [← HFT.out] at HO2
         clear hcl hlc hX hfl hxl han
         go_wp2_with (at_builtin; refine wpList_append_own_none rfl _ _ 259 rfl 0 260 i0 1 Tryz.underlying259 hi (.slice va fl vc) fl _ rfl hR5 rfl ?_)
         go_wp2
         go_roundg (i-(j+1))
         · exact ⟨j+1,by omega,rfl,by first | rfl | go_num,Lib.hid (by rw [HF2.out]; exact HO2.out),HU⟩
         · omega
       | some ad =>
         rw [hxl] at d d0
         have hnw : ∀ t u,X[t]? =some u→wo.cell? (ad.add t)=some u:=fun t u ht=>by
          obtain ⟨ht1,ht2⟩:=List.getElem?_eq_some_iff.1 ht
          obtain ⟨b,o,hbo,hcc⟩:=hcl t ht1
          cases hbo
          rw [kx,hcc,ht2]
         have HNW:=Lib.hid hnw
         clear hcl hlc han hnw
         go_wp2_with (at_builtin; refine zz _ rfl _ _ 259 rfl 260 i0 _ 1 8 Tryz.underlying259 hi hz0 hz1 hz2 rfl (by omega) (.slice va fl vc) fl _ rfl hR5 ad xl c1 X rfl (by rw [hxl,Nat.mul_one]) HNW.out HOX.out (by unfold maxLen; omega) (by omega) ?_)
         intro v4 w4 hR4 hU4 hT4
         have hap:=HO.out.app HU.out (ys:=X) (by rw [HFL.out,HXL.out]; exact hR4) hU4 hT4
         rw [← HFT.out] at hap
         have HAP:=Lib.hid hap
         clear hR4 hU4 hT4 hap hR5
         go_wp2
         go_roundg (i-(j+1))
         · exact ⟨j+1,by omega,rfl,by first | rfl | go_num,Lib.hid (by rw [HF2.out]; exact HAP.out.1),Lib.hid HAP.out.2⟩
         · omega
     · have hcz2 : ¬ (j:Int)<(i:Int):=by omega
       obtain rfl:j=i:=by omega
       have hfl:(xss.take j).flatten=xss.flatten:=by rw [List.take_of_length_le (by rw [HKX.out]; exact Nat.le_refl _)]
       rw [hfl] at HO
       clear hfl
       go_wp2
       go_ret
       exact ⟨_,rfl,HO.out,HU.out⟩
end Go.Proofs.YtfkcdnaghndgfaaGreatDoor
