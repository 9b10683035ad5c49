/- Package deflate: laid: its walk. -/
import Derived.Test.YtfkcdnaghndgfaaGreatDoorQBV
import Derived.Test.YtfkcdnaghndgfaaGreatDoorQBU
import Derived.Carry
import Derived.Test.YtfkcdnaghndgfaaGreatDoorQBR
import Derived.Test.YtfkcdnaghndgfaaGreatDoorQBN
import Derived.Test.YtfkcdnaghndgfaaGreatDoorQAA
import Derived.Test.YtfkcdnaghndgfaaGreatDoorQBE
import Derived.Test.YtfkcdnaghndgfaaGreatDoorQBG
set_option linter.unusedVariables false
set_option linter.unusedSimpArgs false
set_option linter.unusedSectionVars false
namespace Go.Proofs.YtfkcdnaghndgfaaGreatDoor
open Go.RowKit
attribute [local go_sem] Oper.semAt_some
theorem zhx (w:World):WrAt (w.alloc (.cells #[.slice none 0 0,.int .u64 0,.int .i64 0] 118)) w.heap.size (.slice none 0 0) [] 0 :=
 ⟨Blk.new w [.slice none 0 0,.int .u64 0,.int .i64 0] _,Row.nil _ _ _,Nat.le_refl _,by simp [Value.ownBlock]⟩
def zgk (kf:Nat) (KK:List Tok→Nat→Prop):Prop := ∀ (r:List Tok) (a:Option Addr) (n c:Nat) (w:World),TokIn w a n r→n≤100000→(∀ t∈r,zH t) →
 Calls Tryz.prog kf #[.slice a n c] w fun e w' => ∃ k:Nat,e = .returned (.int .i64 (k:Nat))∧k≤2∧KK r k∧Upd [] w w'
def LdI (bs:List Nat) (l:List Tok) (KK:List Tok→Nat→Prop) (kf:Nat) (w0 wz:World) (b3 b5 bw:Nat) (pre:List Nat) (W:World):Prop :=
 Blk W b3 [.string (zd (bs.drop (xf l pre.length)))] 9∧Blk W b5 [.func (.func kf) #[] #[]] 72 ∧
 (∃ v L,WrAt W bw v L (L.length/8)∧(∀ k,v.ownBlock=some k→wz.heap.size≤k)∧RT bs l KK pre.length L)∧Upd [] w0 W
theorem LdI.own {bs:List Nat} {l:List Tok} {KK:List Tok→Nat→Prop} {kf:Nat} {w0 wz:World} {b3 b5 bw B:Nat} (hB:w0.heap.size≤B):OwnFrom B (LdI bs l KK kf w0 wz b3 b5 bw):=fun p X C row hs hgr hr=>by
 obtain ⟨h1,h2,⟨v,L,h3,h4,h5⟩,h6⟩:=hs
 exact ⟨vU B b3 (fun (_:Unit)=>_) _ () X C row h1 hgr hr,vU B b5 (fun (_:Unit)=>_) _ () X C row h2 hgr hr,⟨v,L,⟨vU B bw (fun (_:Unit)=>_) _ () X C row h3.blk hgr hr,h3.row.ownF hgr hr,h3.le,h3.far⟩,h4,h5⟩,zau B [] w0 hB () X C row h6 hgr hr⟩
theorem LdI.w2 {bs:List Nat} {l:List Tok} {KK:List Tok→Nat→Prop} {kf:Nat} {w0 wz:World} {b3 b5 bw be:Nat} (h0:w0.heap.size≤be) (hb:b3≠be∧b5≠be∧bw≠be) (hz:be<wz.heap.size) : ∀ p X C,LdI bs l KK kf w0 wz b3 b5 bw p X→Own2 [be] X C→LdI bs l KK kf w0 wz b3 b5 bw p C:=fun p X C hs hAC=>by
 obtain ⟨h1,h2,⟨v,L,h3,h4,h5⟩,h6⟩:=hs
 refine ⟨h1.upd hAC.1 (by simp; exact hb.1),h2.upd hAC.1 (by simp; exact hb.2.1),⟨v,L,h3.upd hAC.1 (by simp; exact hb.2.2) (fun k hk hm=>?_),h4,h5⟩,h6.trans hAC.1 (fun k hk => .inr (by simp at hk; omega))⟩
 have:=h4 k hk; simp at hm; omega
theorem TokIn.far {w w':World} {a:Option Addr} {n:Nat} {l:List Tok} {fp:List Nat} (h:TokIn w a n l) (hU:Upd fp w w') (hf : ∀ k∈fp,w.heap.size≤k):TokIn w' a n l :=
 ⟨h.len,fun i hi=>by
  obtain ⟨b,off,e,⟨c1,c2,c3⟩,r⟩:=h.cell i hi
  have hb:b<w.heap.size:=World.block_lt_of_cell? w _ c1
  have hn:b∉fp:=fun hm=>by have:=hf _ hm; omega
  exact ⟨b,off,e,⟨(hU.at hb hn _).trans c1,(hU.at hb hn _).trans c2,(hU.at hb hn _).trans c3⟩,r⟩⟩
theorem vG (l:List Nat) (a b:Nat):(zd l).extract a b=zd ((l.drop a).take (b-a)):=by
 apply ByteArray.ext
 apply Array.ext'
 simp [zd,List.map_take,List.map_drop]
theorem zfv {bs:List Nat} {l:List Tok} {KK:List Tok→Nat→Prop} {kf:Nat} {w0 wz W W2 w9:World} {b3 b5 bw be x:Nat} {pre:List Nat} {v v':Value} {L M:List Bool} {s:Value}
 (g:w0.heap.size≤b3∧b3<b5∧b5<bw∧bw<be∧be<wz.heap.size∧wz.heap.size≤W.heap.size)
 (h1:Blk W b3 [s] 9) (h2:Blk W b5 [.func (.func kf) #[] #[]] 72) (h3:WrAt W bw v L (L.length/8)) (h4 : ∀ k,v.ownBlock=some k→wz.heap.size≤k) (h6:Upd [] w0 W) (hpl:pre.length=x)
 (hU2:Upd [] W W2) (hws:WS W2 bw v w9 v' M) (hRT:RT bs l KK (x+1) M) :
 KeepsFrom wz.heap.size W (w9.setCell ⟨b3,0,none⟩ (.string (zd (bs.drop (xf l (x+1))))))∧Keep [be] W (w9.setCell ⟨b3,0,none⟩ (.string (zd (bs.drop (xf l (x+1))))))∧LdI bs l KK kf w0 wz b3 b5 bw (pre++[x]) (w9.setCell ⟨b3,0,none⟩ (.string (zd (bs.drop (xf l (x+1)))))):=by
 obtain ⟨g1,g2,g3,g4,g5,g6⟩:=g
 have hs2:=hU2.size
 have hU9:Upd (zU bw v) W w9:=(hU2.mono (fun k hk=>by cases hk)).trans hws.upd (fun k hk => .inl hk)
 have hfp : ∀ k∈zU bw v,k=bw∨wz.heap.size≤k:=fun k hk=>by
  rcases List.mem_cons.1 hk with e | hk
  · exact .inl e
  · exact .inr (h4 k (by simpa using hk))
 have hUF:Upd (b3::zU bw v) W (w9.setCell ⟨b3,0,none⟩ (.string (zd (bs.drop (xf l (x+1)))))):=(hU9.mono (fun k hk => .inl (List.mem_cons_of_mem _ hk))).setCell (.inl (by simp)) _
 have hown : ∀ k,v'.ownBlock=some k→wz.heap.size≤k:=fun k hk=>by
  rcases hws.later with e | ⟨q,e,hq⟩
  · exact h4 k (by rw [← e]; exact hk)
  · rw [hk] at e; cases e; omega
 have hb3:b3∉zU bw v:=fun hm=>by rcases hfp _ hm with h | h<;>omega
 have hb5:b5∉b3::zU bw v:=fun hm=>by
  rcases List.mem_cons.1 hm with e | hm
  · omega
  · rcases hfp _ hm with h | h<;>omega
 refine ⟨(hUF.others (fun k hk=>?_)).from _,Keep.of_upd hUF (fun k hk=>?_),?_,h2.upd hUF hb5,⟨v',M,?_,hown,?_⟩,?_⟩
 · rcases List.mem_cons.1 hk with rfl | hk
   · exact h1.cellsOnly
   · rcases List.mem_cons.1 hk with rfl | hk
     · exact h3.blk.cellsOnly
     · exact h3.row.cellsOnly k (by simpa using hk)
 · have hk2:k=be:=by simpa using hk
   refine ⟨by omega,fun hm=>?_⟩
   rcases List.mem_cons.1 hm with e | hm
   · omega
   · rcases hfp _ hm with h | h<;>omega
 · rw [List.length_append,List.length_singleton,hpl]
   exact (h1.upd hU9 hb3).set 0 _
 · exact ⟨hws.at_.blk.setFar (a:=⟨b3,0,none⟩) _ (by simp; omega),hws.at_.row.setFar (a:=⟨b3,0,none⟩) _ (fun e=>by have:=hown _ e; simp at this; omega),hws.at_.le,hws.at_.far⟩
 · rw [List.length_append,List.length_singleton,hpl]
   exact hRT
 · refine h6.trans hUF (fun k hk => .inr ?_)
   rcases List.mem_cons.1 hk with rfl | hk
   · exact g1
   · rcases hfp k hk with h | h<;>(have:=h6.size; omega)
set_option maxRecDepth 100000 in
set_option maxHeartbeats 8000000 in
theorem zha (S:ByteArray) (l:List Tok) (a:Option Addr) (n cap kf:Nat) (KK:List Tok→Nat→Prop) (w:World) (hT:TokIn w a n l) (ha:(a=none∧n=0∧cap=0) ∨ ∃ g o,a=some ⟨g,o,none⟩) (hc:n≤cap) (hcm:cap≤9223372036854775807)
 (hS:S.size=zx l) (hS2:S.size≤65000) (hok : ∀ t∈l,zH t) (hK:zgk kf KK) (hkf : ∀ args w,(callFunc kf args).run Tryz.prog w = .ok (.enter kf args) w) :
 Calls Tryz.prog 41 #[.string S,.slice a n cap,.func (.func kf) #[] #[]] w fun e w' => ∃ M,RT (za S) l KK (xD n) M∧e = .returned (.string (zd (pack M)))∧Upd [] w w':=by
 have hn:n≤65000:=by have:=(YV l hok).1; rw [hT.len] at this; omega
 have HT:=Lib.hid hT
 have HA:=Lib.hid ha
 have HOK:=Lib.hid hok
 have HK:=Lib.hid hK
 have HKF:=Lib.hid hkf
 have HS:=Lib.hid hS
 clear hT ha hok hK hkf hS
 refine (callsIn_wide (n:=9)).1 ?_
 refine callsIn_of_wp_marks Tryz.func41 rfl trivial ?_ rfl
 simp only [Tryz.ntmps41,List.size_toArray,List.length_cons,List.length_nil,Nat.reduceAdd,Nat.reduceSub,Array.replicate_succ,Array.replicate_zero,List.push_toArray,List.append_toArray,List.nil_append,List.cons_append]
 refine wpIn_wide.2 ?_
 let QQ:Exit→Act→World→Prop:=bodyPost Tryz.prog Tryz.f41 (fun _ _=>True)
 have hb3:Blk (((w.alloc (.cells #[.string S] 9)).alloc (.cells #[.func (.func kf) #[] #[]] 72)).alloc (.cells #[.slice none 0 0,.int .u64 0,.int .i64 0] 118)) w.heap.size [.string S] 9:=((Blk.new w _ _).alloc _).alloc _
 have hb5:Blk (((w.alloc (.cells #[.string S] 9)).alloc (.cells #[.func (.func kf) #[] #[]] 72)).alloc (.cells #[.slice none 0 0,.int .u64 0,.int .i64 0] 118)) (w.heap.size+1) [.func (.func kf) #[] #[]] 72:=by
  have:=(Blk.new (w.alloc (.cells #[.string S] 9)) [.func (.func kf) #[] #[]] 72).alloc (.cells #[.slice none 0 0,.int .u64 0,.int .i64 0] 118)
  rw [World.size_alloc] at this; exact this
 have hwr:WrAt (((w.alloc (.cells #[.string S] 9)).alloc (.cells #[.func (.func kf) #[] #[]] 72)).alloc (.cells #[.slice none 0 0,.int .u64 0,.int .i64 0] 118)) (w.heap.size+1+1) (.slice none 0 0) [] 0:=by
  have:=zhx ((w.alloc (.cells #[.string S] 9)).alloc (.cells #[.func (.func kf) #[] #[]] 72))
  rw [World.size_alloc,World.size_alloc] at this; exact this
 have hs1:(((w.alloc (.cells #[.string S] 9)).alloc (.cells #[.func (.func kf) #[] #[]] 72)).alloc (.cells #[.slice none 0 0,.int .u64 0,.int .i64 0] 118)).heap.size=w.heap.size+3:=by simp
 have hu1:Upd [] w (((w.alloc (.cells #[.string S] 9)).alloc (.cells #[.func (.func kf) #[] #[]] 72)).alloc (.cells #[.slice none 0 0,.int .u64 0,.int .i64 0] 118)):=(((Upd.refl _ _).alloc _).alloc _).alloc _
 have HB:=Lib.hid (And.intro hb3 (And.intro hb5 (And.intro hwr hu1)))
 clear hb3 hb5 hwr hu1
 go_wp2_with fail
 change Calls _ _ _ (((w.alloc (.cells #[.string S] 9)).alloc (.cells #[.func (.func kf) #[] #[]] 72)).alloc (.cells #[.slice none 0 0,.int .u64 0,.int .i64 0] 118)) _
 generalize ((w.alloc (.cells #[.string S] 9)).alloc (.cells #[.func (.func kf) #[] #[]] 72)).alloc (.cells #[.slice none 0 0,.int .u64 0,.int .i64 0] 118)=w1 at *
 refine (zfx _ _ _ w1).mono ?_
 rintro e w4 ⟨rfl,hw4⟩
 have hU4:Upd [] w1 w4:=by rw [hw4]; exact (Upd.refl _ _).alloc _
 have hS4:Blk w4 w1.heap.size [.slice a n cap] 70:=by rw [hw4]; exact Blk.new w1 _ _
 have hz4:w4.heap.size=w1.heap.size+1:=by rw [hw4]; simp
 obtain ⟨b3,hb3⟩ : ∃ b3,w.heap.size=b3:=⟨_,rfl⟩
 obtain ⟨b5,hb5⟩ : ∃ b5,w.heap.size+1=b5:=⟨_,rfl⟩
 obtain ⟨bw,hbw⟩ : ∃ bw,w.heap.size+1+1=bw:=⟨_,rfl⟩
 rw [hbw,hb5,hb3] at HB ⊢
 have hI4:LdI (za S) l KK kf w w4 b3 b5 bw [] w4:=by
  obtain ⟨q3,q5,qw,qu⟩:=HB.out
  refine ⟨?_,q5.upd hU4 (by simp),⟨_,[],qw.upd hU4 (by simp) (by simp),fun k hk=>by simp [Value.ownBlock] at hk,.zero⟩,qu.then hU4⟩
  have e:zd ((za S).drop (xf l ([]:List Nat).length))=S:=by
   have e0:xf l ([]:List Nat).length=0:=by simp [xf,zx]
   rw [e0,List.drop_zero,zz]
  rw [e]
  exact q3.upd hU4 (by simp)
 have HI4:=Lib.hid hI4
 have HS4:=Lib.hid hS4
 clear hw4 hU4 hS4 hI4 HB
 obtain ⟨be,hbe⟩ : ∃ be,w1.heap.size=be:=⟨_,rfl⟩
 rw [hbe] at HS4 hs1 hz4 ⊢
 have HBS:=Lib.hid (show w.heap.size≤be∧be<w4.heap.size∧(b3≠be∧b5≠be∧bw≠be)∧w.heap.size≤b3∧b3<b5∧b5<bw∧bw<be by omega)
 have hks:Hid (∀ k∈[be],k≠w4.heap.size+1):=Lib.hid (by intro k hk; simp at hk; omega)
 have hbb:w.heap.size≤w4.heap.size:=by omega
 clear hbe hs1 hz4 hb3 hb5 hbw
 go_wp2_with fail
 refine zgO ?_
 intro fr hfr
 refine Code.wp_mono (Q:=fun e a' W=>e = .normal ∧ ∃ D pre,a' = { fr with defers := { target := .collected D,args := #[] }::fr.defers }∧w4.heap.size≤D∧W.heap[D]? =some (.deferred (some []))∧LdI (za S) l KK kf w w4 b3 b5 bw pre W∧Hid (pre=List.range (xD n))) ?cont ((wpIn_wide (n:=9)).1 ?main)
 case main =>
  refine ziI (gf:=118) (lb := #[.pointer (some ⟨be,0,none⟩)]) (by rw [hfr]; rfl) (enters_of Tryz.func118 (by kernel_rfl) rfl)
   (zcz be a n cap w4 HA.out HS4.out (by omega) hc (by omega)) hks.out (fun _=>rfl)
   (fun pre W=>LdI (za S) l KK kf w w4 b3 b5 bw pre W)
   (fun _ _ _=>False)
   ?act
   (LdI.own hbb) (fun c=>fun _ _ _ _ h _ _=>h)
   (LdI.w2 HBS.out.1 HBS.out.2.2.1 HBS.out.2.1) (fun _ _ _ _ h _=>h) HI4.out ?assign ?body ?done ?stop
  case assign =>
   intro L1 x W K hK
   subst hfr
   simp only [zck]
   gi_wp2
   exact hK
  case body =>
   rintro L1 pre x W hsz hfp hI ⟨hpx,hxN⟩
   subst hfr
   obtain ⟨h1,h2,⟨v,L,h3,h4,h5⟩,h6⟩:=hI
   have hpl:pre.length=x:=by rw [hpx,List.length_range]
   rw [hpl] at h1 h5
   have HTx:=Lib.hid ((HT.out.pure (h6.drew)).rowL x)
   have HDL:=Lib.hid (fun w' (h:TokIn w' (a.map fun p=>p.add (24000*x)) (min (n-8000*x) 8000) (rowL l x))=>zdK (rowL l x) _ _ (cap-8000*x) w' h (by omega) (ZO HOK.out x))
   have HKD:=Lib.hid (fun w' (h:TokIn w' (a.map fun p=>p.add (24000*x)) (min (n-8000*x) 8000) (rowL l x))=>HK.out (rowL l x) _ _ (cap-8000*x) w' h (by omega) (ZO HOK.out x))
   have HTF:=Lib.hid (fun (w':World) (fp:List Nat) (hU:Upd fp w w') (hf : ∀ k∈fp,w.heap.size≤k)=>(HT.out.far hU hf).rowL x)
   have hsp:xf l x+zx (rowL l x)≤(za S).length:=by rw [← Jw,zc,HS.out]; exact zg3 l (x+1)
   have HEX:Hid ((zd ((za S).drop (xf l x))).extract (zx (rowL l x)) (zd ((za S).drop (xf l x))).size=zd ((za S).drop (xf l (x+1)))):=Lib.hid (by
    rw [vG,List.drop_drop,zq,List.length_drop,← Jw,List.take_of_length_le]
    rw [List.length_drop,Jw]; omega)
   have HSL:Hid (zx (rowL l x)≤(zd ((za S).drop (xf l x))).size):=Lib.hid (by rw [zq,List.length_drop]; omega)
   have HLN:=Lib.hid HT.out.len
   have H1:=Lib.hid h1
   have H2:=Lib.hid h2
   have H3:=Lib.hid h3
   have H4:=Lib.hid h4
   have H5:=Lib.hid h5
   have H6:=Lib.hid h6
   have HPL:=Lib.hid hpl
   have hTx:=HTx.out
   have hkf:=HKF.out
   have c0:=h2.drew.cell 0 rfl
   generalize (a.map fun p=>p.add (24000*x))=ax at *
   obtain ⟨m,hm⟩ : ∃ m,min (n-8000*x) 8000=m:=⟨_,rfl⟩
   have HM:=Lib.hid hm
   rw [hm] at HDL HKD HTx hTx HTF
   obtain ⟨EL,hEL⟩ : ∃ EL,zx (rowL l x)=EL:=⟨_,rfl⟩
   have HEL:=Lib.hid hEL
   rw [hEL] at HDL HEX HSL
   clear h1 h2 h3 h4 h5 h6 hpl hpx hfp hEL hsp
   gi_wp2_with fail
   refine wpIn_mono (Q:=fun e a' W'=>e = .normal ∧ ∃ k:Nat,k≤2∧KK (rowL l x) k∧Upd [] W W'∧a' = { tmps := #[.string S,.slice a n cap,.func (.func kf) #[] #[],.pointer (some ⟨b3,0,none⟩),undef,.pointer (some ⟨b5,0,none⟩),.string { data := #[] },.pointer (some ⟨bw,0,none⟩),.slice ax m (cap-8000*x),.bool (decide (x+1=xD n)),.int .i64 (EL:Nat),.int .i64 (k:Nat),.slice a n cap,.func (.func 118) #[] #[.pointer (some ⟨be,0,none⟩)],.slice ax m (cap-8000*x),.bool (decide (x+1=xD n)),.slice ax m (cap-8000*x),.int .i64 (EL:Nat),.func (.func kf) #[] #[],.slice ax m (cap-8000*x),.int .i64 (k:Nat),undef,undef,undef,undef,undef,undef,undef,undef,undef,undef,undef,undef,undef,undef],defers:=[] }) ?reg ?after
   case reg =>
    refine YG (S:=fun _=>True) (by kernel_rfl) (by kernel_rfl) trivial (fun hHeld K hKQ=>?_)
    change wpAnyH _ _ _ _ _ 7 #[false,false,false,false,false,false,false] _ _
    refine ZX (i:=0) (d:=some 16) (v:=?v0_1) rfl rfl (by kernel_rfl) (by kernel_rfl) (by kernel_rfl) (fun _ _ _ h=>h) (by rfl) ?hy0_1 (by assumption) ?r0_1
    case hy0_1=>(intro w hSw; (try dsimp only at hSw); go_simp; try with_reducible rfl)
    try simp only [Act.put,List.setIfInBounds_toArray,List.set_cons_zero,List.set_cons_succ]
    change wpAnyH _ _ _ _ _ 6 #[true,false,false,false,false,false,false] _ _
    refine ZX (i:=3) (d:=some 19) (v:=?v3_2) rfl rfl (by kernel_rfl) (by kernel_rfl) (by kernel_rfl) (fun _ _ _ h=>h) (by rfl) ?hy3_2 (by assumption) ?r3_2
    case hy3_2=>(intro w hSw; (try dsimp only at hSw); go_simp; try with_reducible rfl)
    try simp only [Act.put,List.setIfInBounds_toArray,List.set_cons_zero,List.set_cons_succ]
    change wpAnyH _ _ _ _ _ 5 #[true,false,false,true,false,false,false] _ _
    refine wpAnyH_ready (rs:=[1,2]) (by kernel_rfl) (by simp) ?_
    refine AllReadyH.cons rfl (fun K hK=>?_) (AllReadyH.cons rfl (fun K hK=>?_) AllReadyH.nil)
    · skip
      go_simp
      refine (HDL.out _ hTx).mono ?_
      rintro e z1 ⟨rfl,hz1⟩
      have hTz:=Lib.hid (hTx.pure hz1)
      have c1:=(H2.out.drew.upd hz1 (by simp)).cell 0 rfl
      go_wp2
      refine hK.out _ _ trivial (fun hHeld=>?_)
      clear hK K
      try simp only [Act.put,List.setIfInBounds_toArray,List.set_cons_zero,List.set_cons_succ]
      change wpAnyH _ _ _ _ _ 4 #[true,true,false,true,false,false,false] _ _
      refine wpAnyH_ready (rs:=[2]) (by kernel_rfl) (by simp) ?_
      refine AllReadyH.cons rfl (fun K hK=>?_) AllReadyH.nil
      go_simp
      skip
      go_wp2
      refine hK.out _ _ trivial (fun hHeld=>?_)
      clear hK K
      try simp only [Act.put,List.setIfInBounds_toArray,List.set_cons_zero,List.set_cons_succ]
      change wpAnyH _ _ _ _ _ 3 #[true,true,true,true,false,false,false] _ _
      refine wpAnyH_ready (rs:=[4]) (by kernel_rfl) (by simp) ?_
      refine AllReadyH.cons rfl (fun K hK=>?_) AllReadyH.nil
      go_simp
      refine (HKD.out _ hTz.out).mono ?_
      rintro e z2 ⟨k,rfl,hk2,hKk,hz2⟩
      go_wp2
      refine hK.out _ _ trivial (fun hHeld=>?_)
      clear hK K
      try simp only [Act.put,List.setIfInBounds_toArray,List.set_cons_zero,List.set_cons_succ]
      change wpAnyH _ _ _ _ _ 2 #[true,true,true,true,true,false,false] _ _
      refine wpAnyH_ready (rs:=[5]) (by kernel_rfl) (by simp) ?_
      refine AllReadyH.cons rfl (fun K hK=>?_) AllReadyH.nil
      go_simp
      skip
      go_wp2
      refine hK.out _ _ trivial (fun hHeld=>?_)
      clear hK K
      try simp only [Act.put,List.setIfInBounds_toArray,List.set_cons_zero,List.set_cons_succ]
      change wpAnyH _ _ _ _ _ 1 #[true,true,true,true,true,true,false] _ _
      refine wpAnyH_ready (rs:=[6]) (by kernel_rfl) (by simp) ?_
      refine AllReadyH.cons rfl (fun K hK=>?_) AllReadyH.nil
      go_simp
      skip
      go_wp2
      refine hK.out _ _ trivial (fun hHeld=>?_)
      clear hK K
      try simp only [Act.put,List.setIfInBounds_toArray,List.set_cons_zero,List.set_cons_succ]
      change wpAnyH _ _ _ _ _ 0 #[true,true,true,true,true,true,true] _ _
      refine wpAnyH_done (by kernel_rfl) ?_ 0
      refine hKQ _ _ ?_
      exact ⟨by first | rfl | trivial,k,hk2,hKk,((Upd.refl [] W).drew.then hz1).then hz2,rfl⟩
    · skip
      go_simp
      skip
      go_wp2
      refine hK.out _ _ trivial (fun hHeld=>?_)
      clear hK K
      try simp only [Act.put,List.setIfInBounds_toArray,List.set_cons_zero,List.set_cons_succ]
      change wpAnyH _ _ _ _ _ 4 #[true,false,true,true,false,false,false] _ _
      refine wpAnyH_ready (rs:=[1]) (by kernel_rfl) (by simp) ?_
      refine AllReadyH.cons rfl (fun K hK=>?_) AllReadyH.nil
      go_simp
      refine (HDL.out _ hTx).mono ?_
      rintro e z1 ⟨rfl,hz1⟩
      have hTz:=Lib.hid (hTx.pure hz1)
      have c1:=(H2.out.drew.upd hz1 (by simp)).cell 0 rfl
      go_wp2
      refine hK.out _ _ trivial (fun hHeld=>?_)
      clear hK K
      try simp only [Act.put,List.setIfInBounds_toArray,List.set_cons_zero,List.set_cons_succ]
      change wpAnyH _ _ _ _ _ 3 #[true,true,true,true,false,false,false] _ _
      refine wpAnyH_ready (rs:=[4]) (by kernel_rfl) (by simp) ?_
      refine AllReadyH.cons rfl (fun K hK=>?_) AllReadyH.nil
      go_simp
      refine (HKD.out _ hTz.out).mono ?_
      rintro e z2 ⟨k,rfl,hk2,hKk,hz2⟩
      go_wp2
      refine hK.out _ _ trivial (fun hHeld=>?_)
      clear hK K
      try simp only [Act.put,List.setIfInBounds_toArray,List.set_cons_zero,List.set_cons_succ]
      change wpAnyH _ _ _ _ _ 2 #[true,true,true,true,true,false,false] _ _
      refine wpAnyH_ready (rs:=[5]) (by kernel_rfl) (by simp) ?_
      refine AllReadyH.cons rfl (fun K hK=>?_) AllReadyH.nil
      go_simp
      skip
      go_wp2
      refine hK.out _ _ trivial (fun hHeld=>?_)
      clear hK K
      try simp only [Act.put,List.setIfInBounds_toArray,List.set_cons_zero,List.set_cons_succ]
      change wpAnyH _ _ _ _ _ 1 #[true,true,true,true,true,true,false] _ _
      refine wpAnyH_ready (rs:=[6]) (by kernel_rfl) (by simp) ?_
      refine AllReadyH.cons rfl (fun K hK=>?_) AllReadyH.nil
      go_simp
      skip
      go_wp2
      refine hK.out _ _ trivial (fun hHeld=>?_)
      clear hK K
      try simp only [Act.put,List.setIfInBounds_toArray,List.set_cons_zero,List.set_cons_succ]
      change wpAnyH _ _ _ _ _ 0 #[true,true,true,true,true,true,true] _ _
      refine wpAnyH_done (by kernel_rfl) ?_ 0
      refine hKQ _ _ ?_
      exact ⟨by first | rfl | trivial,k,hk2,hKk,((Upd.refl [] W).drew.then hz1).then hz2,rfl⟩
   case after =>
    rintro e a' W' ⟨rfl,k,hk2,hKk,hUk,rfl⟩
    have HUk:=Lib.hid hUk
    have HKk:=Lib.hid hKk
    clear c0
    have c3:=(H1.out.upd hUk (by simp)).cell 0 rfl
    have H2k:=Lib.hid (H2.out.upd hUk (by simp))
    have H1k:=Lib.hid (H1.out.upd hUk (by simp))
    have H3k:=Lib.hid (H3.out.upd hUk (by simp) (by simp))
    clear hUk hKk hTx
    by_cases hk0:k=0
    · subst hk0
      have hx9:xD n≤1000:=by unfold xD; split<;>omega
      have hlu:=H5.out.up HOK.out (zV S) (by rw [zc]; exact hS2)
      have hLb:L.length≤50000000000:=by omega
      obtain ⟨TB,hTB⟩ : ∃ TB,((za S).drop (xf l x)).take EL=TB:=⟨_,rfl⟩
      have hTBl:TB.length≤65000:=by rw [← hTB,List.length_take,List.length_drop,zc]; omega
      have hTB2 : ∀ y∈TB,y<256:=fun y hy=>zV S y (List.mem_of_mem_drop (List.mem_of_mem_take (by rw [hTB]; exact hy)))
      have HX0:Hid ((zd ((za S).drop (xf l x))).extract 0 EL=zd TB):=Lib.hid (by rw [vG,List.drop_zero,Nat.sub_zero,hTB])
      have HP0:=Lib.hid (fun w=>zaA (zd TB) w (by rw [zq]; exact hTBl))
      rw [zE TB hTB2] at HP0
      have HRW:Hid (zab (za S) l x 0=qe TB):=Lib.hid (by unfold zab; rw [if_pos rfl,HEL.out,hTB])
      have HTB2:=Lib.hid hTB2
      have hsl:=HSL.out
      have hslz:(EL:Int)≤((zd ((za S).drop (xf l x))).size:Int):=by omega
      have hx0:=HX0.out
      clear hlu hx9 hTB hTB2
      gi_wp2_with fail
      refine ⟨trivial,(CallsIn.inRound L1 (callsIn_wide.2 (HP0.out _))).mono ?_⟩
      rintro e z3 ⟨vp,rfl,hRp,hop,hup⟩
      obtain ⟨pa,pc,rfl,hTp,hbp,-,-⟩:=TokIn.of_row hRp (fun t ht=>by obtain ⟨y,hy,rfl⟩:=List.mem_map.1 ht; exact ⟨HTB2.out y hy,by simp,by simp⟩)
      have HWR:=Lib.hid (Xs (qe TB) bw v L pa TB.length pc 0 (decide (x+1=xD n)) z3 (fun w' hU'=>hTp.upd hU' (fun b off e hm=>by
       have hb:=hop b (hbp b off e)
       rcases List.mem_cons.1 hm with e2 | hm
       · have:=H3k.out.blk.lt; omega
       · have hv:v.ownBlock=some b:=by simpa using hm
         rcases H3k.out.row.2 with ⟨e3,_⟩ | ⟨g',cap',cur,e3,_,hh,_⟩
         · rw [e3] at hv; cases hv
         · rw [e3] at hv; simp [Value.ownBlock] at hv; subst hv; have:=(Array.getElem?_eq_some_iff.1 hh).1; omega)) (H3k.out.upd hup (by simp) (by simp)) hLb (by omega) (YW HTB2.out) (by omega) (by unfold zgy; rw [Zy]; omega))
      have HUP:=Lib.hid hup
      clear hRp hop hbp hTp hup c3
      gi_wp2_with fail
      refine ⟨trivial,(CallsIn.inRound L1 (callsIn_wide.2 HWR.out)).mono ?_⟩
      rintro e w9 ⟨rfl,v',M,hBk,hws⟩
      have HE:=Lib.hid (zfv (be:=be) ⟨HBS.out.2.2.2.1,HBS.out.2.2.2.2.1,HBS.out.2.2.2.2.2.1,HBS.out.2.2.2.2.2.2,HBS.out.2.1,hsz⟩ H1.out H2.out H3.out H4.out H6.out HPL.out (HUk.out.then HUP.out) hws (RT.succ H5.out HKk.out hk2 (by rw [HRW.out,HLN.out]; exact hBk)))
      have hb9:=(H1k.out.upd HUP.out (by simp)).upd hws.upd (fun hm=>by
       rcases List.mem_cons.1 hm with e | hm
       · have:=HBS.out; omega
       · have:=H4.out _ (by simpa using hm); have:=HBS.out; omega)
      have c9:=hb9.cell 0 rfl
      have f9:=hb9.frz 0
      have hel:=HEX.out
      clear hb9 hws hBk hx0
      generalize zd ((za S).drop (xf l x))=SS at *
      generalize zd ((za S).drop (xf l (x+1)))=SN at *
      gi_wp2
      exact HE.out
    · have hkz:((k:Int)==0)=false:=by simp; omega
      have hx9:xD n≤1000:=by unfold xD; split<;>omega
      have hfp9 : ∀ q∈zU bw v,q=bw∨w4.heap.size≤q:=fun q hq=>by
       rcases List.mem_cons.1 hq with e | hq
       · exact .inl e
       · exact .inr (H4.out q (by simpa using hq))
      have hlu:=H5.out.up HOK.out (zV S) (by rw [zc]; exact hS2)
      have HWR:=Lib.hid (Xs (rowL l x) bw v L ax m (cap-8000*x) k (decide (x+1=xD n)) W' (fun w' hU'=>HTF.out w' (zU bw v) (((H6.out.then HUk.out).mono (fun k hk=>by cases hk)).trans hU' (fun k hk => .inl hk)) (fun q hq=>by rcases hfp9 q hq with h | h<;>(have:=HBS.out; omega))) H3k.out (by omega) (by omega) (ZO HOK.out x) hk2 (by unfold zgy; rintro (h | h | ⟨h,_⟩)<;>omega))
      have HFP:=Lib.hid hfp9
      clear hfp9 hlu hx9
      gi_wp2_with fail
      refine ⟨trivial,(CallsIn.inRound L1 (callsIn_wide.2 HWR.out)).mono ?_⟩
      rintro e w9 ⟨rfl,v',M,hBk,hws⟩
      have HE:=Lib.hid (zfv (be:=be) ⟨HBS.out.2.2.2.1,HBS.out.2.2.2.2.1,HBS.out.2.2.2.2.2.1,HBS.out.2.2.2.2.2.2,HBS.out.2.1,hsz⟩ H1.out H2.out H3.out H4.out H6.out HPL.out HUk.out hws (RT.succ H5.out HKk.out hk2 (by unfold zab; rw [if_neg hk0,HLN.out]; exact hBk)))
      have hb9:=H1k.out.upd hws.upd (fun hm=>by rcases HFP.out _ hm with h | h<;>(have:=HBS.out; omega))
      have c9:=hb9.cell 0 rfl
      have f9:=hb9.frz 0
      have hsl:=HSL.out
      have hslz:(EL:Int)≤((zd ((za S).drop (xf l x))).size:Int):=by omega
      have hel:=HEX.out
      clear c3 hb9 hws hBk
      generalize zd ((za S).drop (xf l x))=SS at *
      generalize zd ((za S).drop (xf l (x+1)))=SN at *
      gi_wp2
      exact HE.out
  case done =>
   rintro D xs W hD hxs hI hK
   exact ⟨rfl,D,_,rfl,hD,hK,hI,Lib.hid hxs⟩
  case stop =>
   rintro D c pre W hD hpre h hK
   exact h.elim
 case cont =>
  rintro e a' wz ⟨rfl,D,pre,rfl,hD,hDk,hI,HP⟩
  subst hfr
  obtain ⟨h1,h2,⟨v,L,h3,h4,h5⟩,h6⟩:=hI
  have HDk:=Lib.hid hDk
  have HU:=Lib.hid h6
  have HRT:=Lib.hid h5
  have hll:=h5.up (bs:=za S) HOK.out (zV S) (by rw [zc]; exact hS2)
  have hpl:pre.length≤1000:=by rw [HP.out,List.length_range]; unfold xD; split<;>omega
  have HBY:=Lib.hid (zd0 bw wz v L h3 (by omega))
  clear h1 h2 h3 h4 h5 h6 hDk
  go_wp2_with fail
  refine HBY.out.mono ?_
  rintro e w9 ⟨rfl,hu9⟩
  have hDk9:w9.heap[D]? =some (.deferred (some [])):=(hu9.block D (Array.getElem?_eq_some_iff.1 HDk.out).1 (by simp)).trans HDk.out
  have HU9:=Lib.hid (HU.out.then hu9)
  have HD9:=Lib.hid hDk9
  clear hu9 hDk9
  go_wp2
  refine ⟨by simp,.inl ⟨_,_,rfl,run_takeDeferred HD9.out,?_⟩⟩
  refine ⟨_,results_tmp rfl _ _ _,L,?_,rfl,HU9.out.putObj' (by omega) _⟩
  have h:=HRT.out
  rw [HP.out,List.length_range] at h
  exact h
end Go.Proofs.YtfkcdnaghndgfaaGreatDoor
namespace Go.Proofs.YtfkcdnaghndgfaaGreatDoor
open Go.RowKit
attribute [local go_sem] Oper.semAt_some
set_option maxRecDepth 100000 in
set_option maxHeartbeats 6400000 in
theorem Kn (w:World) :
 Calls Tryz.prog 42 #[.string ⟨#[]⟩,.int .i64 9] w fun e w'=>e = .returned (.slice none 0 0)∧Upd [] w w':=by
 go_enter Tryz.func42,Tryz.ntmps42
 have hm9:max (0:Int) 9=9:=by decide
 have hmm:=@run_makeMap Tryz.prog
 have HU:=Lib.hid ((Upd.refl [] w).alloc (.map #[] 0))
 go_upto_region 5 with fail
 go_wp2
 go_loopg [4,8] 1 (fun gg s4 s8 wr=>gg=1∧s4 = .slice none 0 0∧s8 = .int .i64 0∧Hid (Upd [] w wr))
 case atStart=>exact ⟨rfl,rfl,rfl,Lib.hid ((HU.out.alloc _).alloc _)⟩
 case round =>
  obtain ⟨rfl,rfl,rfl,HW⟩:=hrel
  go_wp2
  go_ret
  exact ⟨rfl,HW.out⟩
end Go.Proofs.YtfkcdnaghndgfaaGreatDoor
namespace Go.Proofs.YtfkcdnaghndgfaaGreatDoor
open Go.RowKit
attribute [local go_sem] Oper.semAt_some
theorem zee (w:World):TokIn w none 0 []:=⟨rfl,fun i h=>absurd h (by simp)⟩
structure UintsIn (w:World) (a:Option Addr) (len:Nat) (l:List Nat):Prop where
 len:l.length=len
 cell : ∀ i (h:i<l.length),∃ b off,a=some ⟨b,off,none⟩∧w.cell? ⟨b,off+i,none⟩=some (.int .u64 (l[i]:Nat))∧l[i]<18446744073709551616
theorem UintsIn.pure {w w':World} {a:Option Addr} {len:Nat} {l:List Nat} (h:UintsIn w a len l) (hU:Upd [] w w'):UintsIn w' a len l :=
 ⟨h.len,fun i hi=>by
  obtain ⟨b,off,e,c,r⟩:=h.cell i hi
  exact ⟨b,off,e,(hU.at (World.block_lt_of_cell? w _ c) (by simp) _).trans c,r⟩⟩
end Go.Proofs.YtfkcdnaghndgfaaGreatDoor
namespace Go.Proofs.YtfkcdnaghndgfaaGreatDoor
open Go.RowKit
attribute [local go_sem] Oper.semAt_some
def zic (r:List Tok) (k:Nat):Prop := ∃ (lits backs lens:List Nat) (steps:List StpD) (t:Nat),MadeO r lits backs steps lens∧ToldO lens t ∧
 k=bst ((35+8*zx r:Nat):Int) (3+ql (ints (xG 4)) (ints (List.replicate 32 5)) (zo r)) (((3+(14+3*t+szT lens steps):Nat):Int)+ql (ints lits) (ints backs) (zo r)) 3
theorem zeJ:zgk 43 zic:=fun r a n c w hI hn hok =>
 (zef r a n c w hI hn hok).mono (by
  rintro e w' ⟨lits,backs,lens,steps,t,hM,hT,rfl,hU⟩
  exact ⟨_,rfl,by have:=zfL ((35+8*zx r:Nat):Int) (3+ql (ints (xG 4)) (ints (List.replicate 32 5)) (zo r)) (((3+(14+3*t+szT lens steps):Nat):Int)+ql (ints lits) (ints backs) (zo r)) 3; omega,⟨lits,backs,lens,steps,t,hM,hT,rfl⟩,hU⟩)
theorem zaZ : ∀ args w,(callFunc 43 args).run Tryz.prog w = .ok (.enter 43 args) w:=enters_of Tryz.func43 (by kernel_rfl) rfl
end Go.Proofs.YtfkcdnaghndgfaaGreatDoor
namespace Go.Proofs.YtfkcdnaghndgfaaGreatDoor
open Go.RowKit
attribute [local go_sem] Oper.semAt_some
set_option maxRecDepth 100000 in
set_option maxHeartbeats 3200000 in
theorem zeK (w:World):Calls Tryz.prog 20 #[.string { data := #[] },.int .i64 9] w fun e w' => ∃ X,e = .returned (.string X)∧Upd [] w w':=by
 go_enter Tryz.func20,Tryz.ntmps20
 go_wp2_with fail
 refine (Kn _).mono ?_
 rintro e w1 ⟨rfl,hU1⟩
 have HU1:=Lib.hid hU1
 have HL:=Lib.hid (zha ⟨#[]⟩ [] none 0 0 43 zic w1 (zee w1) (.inl ⟨rfl,rfl,rfl⟩) (by omega) (by omega) rfl (by decide) (by simp) zeJ zaZ)
 clear hU1
 go_wp2_with fail
 refine HL.out.mono ?_
 rintro e w2 ⟨M,hR,rfl,hU2⟩
 have HU2:=Lib.hid (HU1.out.then hU2)
 clear hR hU2 HL
 go_wp2
 go_ret
 exact ⟨_,rfl,HU2.out⟩
end Go.Proofs.YtfkcdnaghndgfaaGreatDoor
namespace Go.Proofs.YtfkcdnaghndgfaaGreatDoor
open Go.RowKit
set_option maxRecDepth 100000 in
set_option maxHeartbeats 12800000 in
theorem Yx (s0:ByteArray) (r:RecD) (w:World) (hs0:s0.size≤9223372036854775807) (hsu:r.sum<4294967296) (ht:r.t<4294967296) (hp:r.p.size≤9223372036854775807) :
 Calls Tryz.prog 4 #[.string s0,r.v] w fun e w'=>e = .returned (.bool true)∧Upd [] w w':=by
 obtain ⟨n1,hn1⟩ : ∃ n,n=min s0.size 900:=⟨_,rfl⟩
 have e1:min (s0.size:Int) 900=(n1:Int):=by omega
 have b1:n1≤s0.size:=by omega
 obtain ⟨s,hs⟩ : ∃ s,s0.extract 0 n1=s:=⟨_,rfl⟩
 have hsz:s.size≤1000000:=by rw [← hs,ByteArray.size_extract]; omega
 have HSE:=Lib.hid hs
 clear hs hn1
 have HLV:=Lib.hid (fun z=>zcJ zeK z)
 have HD0:=fun (h:r.p.size≤1000) z=>zaj s r z hsz ⟨h,hsu,ht⟩
 have HR0:=fun (h:r.p.size≤1000) z=>Vs s r z hsz ⟨h,hsu,ht⟩
 have HN0:=fun (h:r.p.size≤1000) z=>zd4 s r z hsz ⟨h,hsu,ht⟩
 have HM0:=fun (h:r.p.size≤1000) z=>zag s r z hsz ⟨h,hsu,ht⟩
 generalize xE s r=DP at *
 generalize XP s r=NQ at *
 obtain ⟨D,n,c⟩:=DP
 obtain ⟨a1,a2,a3,a4,a5⟩:=NQ
 obtain ⟨p,m,sum,l,wh,k,md,t,pos⟩:=r
 unfold RecD.v zaI at HD0 HR0
 unfold RecD.v zb1 Xr at HN0 HM0
 unfold RecD.v
 dsimp only at *
 have HD:=Lib.hid HD0
 have HR:=Lib.hid HR0
 have HN:=Lib.hid HN0
 have HM:=Lib.hid HM0
 clear HD0 HR0 HN0 HM0
 have HB:=Lib.hid (Blk.new w [.string p,.int .i64 m,.int .u32 (sum:Nat),.int .i64 l,.int .i64 wh,.int .i64 k,.int .i64 md,.int .u32 (t:Nat),.int .i64 pos] 26)
 have HU:=Lib.hid ((Upd.refl [] w).alloc (.cells #[.string p,.int .i64 m,.int .u32 (sum:Nat),.int .i64 l,.int .i64 wh,.int .i64 k,.int .i64 md,.int .u32 (t:Nat),.int .i64 pos] 26))
 go_enter Tryz.func4,Tryz.ntmps4
 go_upto_region 2 with fail
 rw [HSE.out]
 change Code.wp _ _ _ _ (w.alloc (.cells #[.string p,.int .i64 m,.int .u32 (sum:Nat),.int .i64 l,.int .i64 wh,.int .i64 k,.int .i64 md,.int .u32 (t:Nat),.int .i64 pos] 26))
 generalize w.alloc (.cells #[.string p,.int .i64 m,.int .u32 (sum:Nat),.int .i64 l,.int .i64 wh,.int .i64 k,.int .i64 md,.int .u32 (t:Nat),.int .i64 pos] 26)=w1 at *
 generalize w.heap.size=g at *
 have cA:=HB.out.all
 clear e1 b1 HSE
 rcases (by omega:300<p.size∨(¬ 300<p.size∧700<wh∧wh≤70000)∨(¬ 300<p.size ∧ ¬ 700<wh)∨(¬ 300<p.size∧700<wh ∧ ¬ wh≤70000)) with h1 | ⟨h1,h2,h3⟩ | ⟨h1,h2⟩ | ⟨h1,h2,h3⟩
 iterate 2
  · have hq:=h1
    go_wp2_with fail
    refine (HLV.out _).mono ?_
    rintro e w2 ⟨rfl,hu⟩
    go_wp2
    go_returns
    exact ⟨rfl,HU.out.then hu⟩
 all_goals
  have hD:=HD.out (by omega)
  have hR:=HR.out (by omega)
  have hN:=HN.out (by omega)
  have hM:=HM.out (by omega)
  clear HD HR HN HM
  have HD:=Lib.hid hD
  have HR:=Lib.hid hR
  have HN:=Lib.hid hN
  have HM:=Lib.hid hM
  clear hD hR hN hM
  go_wp2_with fail
  refine (HD.out _).mono ?_
  rintro e w2 ⟨rfl,hu⟩
  have HB:=Lib.hid (HB.out.upd hu (by simp))
  have HU:=Lib.hid (HU.out.then hu)
  clear hu cA HD
  have cA:=HB.out.all
  go_wp2_with fail
  refine (HR.out _).mono ?_
  rintro e w3 ⟨rfl,hu⟩
  have HB:=Lib.hid (HB.out.upd hu (by simp))
  have HU:=Lib.hid (HU.out.then hu)
  clear hu cA HR
  have cA:=HB.out.all
  go_wp2_with fail
  refine (HN.out _).mono ?_
  rintro e w4 ⟨rfl,hu⟩
  have HB:=Lib.hid ((HB.out.upd hu (by simp)).alloc (.cells #[.int .i64 a1,.int .i64 a2,.int .u32 (a3:Nat),.string a4] 24))
  have HU:=Lib.hid ((HU.out.then hu).alloc (.cells #[.int .i64 a1,.int .i64 a2,.int .u32 (a3:Nat),.string a4] 24))
  have HQ:=Lib.hid (Blk.new w4 [.int .i64 a1,.int .i64 a2,.int .u32 (a3:Nat),.string a4] 24)
  clear hu cA HN
  go_upto_region 7 with fail
  change Code.wp _ _ _ _ (w4.alloc (.cells #[.int .i64 a1,.int .i64 a2,.int .u32 (a3:Nat),.string a4] 24))
  generalize w4.alloc (.cells #[.int .i64 a1,.int .i64 a2,.int .u32 (a3:Nat),.string a4] 24)=w5 at *
  generalize w4.heap.size=q at *
  have cA:=HB.out.all
  go_wp2_with fail
  refine (HM.out _).mono ?_
  rintro e w6 ⟨rfl,hu⟩
  have HQ:=Lib.hid ((HQ.out.upd hu (by simp)).alloc (.cells #[.int .i64 a1,.int .i64 a2,.int .u32 (a3:Nat),.string a4] 24))
  have HU:=Lib.hid ((HU.out.then hu).alloc (.cells #[.int .i64 a1,.int .i64 a2,.int .u32 (a3:Nat),.string a4] 24))
  have HV:=Lib.hid (Blk.new w6 [.int .i64 a1,.int .i64 a2,.int .u32 (a3:Nat),.string a4] 24)
  clear hu cA HM HB
  go_upto_region 8 with fail
  change Code.wp _ _ _ _ (w6.alloc (.cells #[.int .i64 a1,.int .i64 a2,.int .u32 (a3:Nat),.string a4] 24))
  generalize w6.alloc (.cells #[.int .i64 a1,.int .i64 a2,.int .u32 (a3:Nat),.string a4] 24)=w7 at *
  generalize w6.heap.size=v at *
  have cA:=HQ.out.all
  have dA:=HV.out.all
  go_wp2_with fail
  refine (HLV.out _).mono ?_
  rintro e w8 ⟨rfl,hu⟩
  go_wp2
  go_returns
  exact ⟨rfl,HU.out.then hu⟩
end Go.Proofs.YtfkcdnaghndgfaaGreatDoor
