/- Package swingleref19: Right: its walk. -/
import Derived.Test.YtfkenhihcmmgkaaGreatDoorQAS
set_option linter.unusedVariables false
set_option linter.unusedSimpArgs false
set_option linter.unusedSectionVars false
set_option maxRecDepth 100000
set_option maxHeartbeats 12800000
namespace Go.Proofs.YtfkenhihcmmgkaaGreatDoor
open Go.RowKit
theorem zbH {r:RecD} (h:r.m≠0∧r.m≠8):qb r=false:=by unfold qb; rw [if_pos (.inl h)]
theorem zbL {r:RecD} (h:yZ r.l=false):qb r=false:=by unfold qb; rw [if_pos (.inr (.inl h))]
theorem zbZ {r:RecD} (h:yZ r.wh=false):qb r=false:=by unfold qb; rw [if_pos (.inr (.inr (.inl h)))]
theorem zda {r:RecD} (h:yZ r.pos=false):qb r=false:=by unfold qb; rw [if_pos (.inr (.inr (.inr h)))]
theorem zcC {r:RecD} (hm:r.m=0∨r.m=8) (h1:yZ r.l=true) (h2:yZ r.wh=true) (h3:yZ r.pos=true) :
 qb r=if r.k=2 then decide (r.sum=0)&&decide (r.l=0)&&decide (r.wh=0)&&decide (r.m=0) else decide (r.m=8)||decide (r.l=r.wh):=by
 unfold qb;rw [h1,h2,h3,if_neg];simp;omega
theorem Qr (r:RecD) (w:World) (h:r.Fits):Calls Tryz.prog 21 #[r.v] w fun e w'=>e = .returned (.int .i64 (yf r:Nat))∧Upd [] w w':=by
 have hp:=h.p;have hsz:(zg (zw r.k r.p)).size≤1100000:=by have:=xn r.k r.p; rw [zk]; omega
 have HN:=Hi (fun w=>vW r w h);have HP:=Hi (fun w=>VQ (zg (zw r.k r.p)) w hsz);rw [zR _ (xY r.k r.p)] at HP;have HT:=Hi (fun w=>VM r w h);have HE:Hid (yf r=if vF r=false then 5 else if qb r=false then 2 else if r.md<0∨511<r.md then 12 else if xN r.k r.t=false then 13 else 0):=Hi rfl;have HB:Hid (vF r=((zV (zw r.k r.p)).2.2&&decide ((zV (zw r.k r.p)).1=zf r.p)&&decide (((zV (zw r.k r.p)).2.1:Int)=r.k))):=Hi rfl;have HA:Hid (∀ x∈(zV (zw r.k r.p)).1,x<256):=Hi (zba (xY r.k r.p));have L1:=Hi (@zbH r);have L2:=Hi (@zbL r);have L3:=Hi (@zbZ r);have L4:=Hi (@zda r);have L5:=Hi (@zcC r);generalize yf r=E at *;generalize xN r.k r.t=tb at *;generalize qb r=lb at *;generalize vF r=nb at *;generalize zV (zw r.k r.p)=pp at *;generalize zg (zw r.k r.p)=S at *;clear hsz;obtain ⟨a,kk,okb⟩:=pp;unfold ZJ at HP;dsimp only at HP HB HA;obtain ⟨p,m,sum,l,wh,k,md,t,pos⟩:=r;unfold RecD.v at *;dsimp only at *;have HQ:=Hi (vD a p HA.out);clear HA;go_enter Tryz.func21,Tryz.ntmps21;go_wp2_with fail
 refine (HN.out _).mono ?_;rintro e w1 ⟨rfl,hU1⟩;go_wp2_with fail
 refine (HP.out _).mono ?_;rintro e w2 ⟨rfl,hU2⟩;have hU:Upd [] w w2:=(((Upd.refl [] w).alloc _).then hU1).then hU2;have hB:=((Blk.new w [.string p,.int .i64 m,.int .u32 (sum:Nat),.int .i64 l,.int .i64 wh,.int .i64 k,.int .i64 md,.int .u32 (t:Nat),.int .i64 pos] 26).upd hU1 (by simp)).upd hU2 (by simp);generalize w.heap.size=b0 at *;have cA:=hB.all;have HBB:=Hi hB;have HU:=Hi hU;clear hB hU hU1 hU2;by_cases hn:okb=true∧(zg a).toList=p.toList∧(kk:Int)=k
 · obtain ⟨rfl,h2,h4⟩:=hn;have hnb:nb=true:=by
    have h2':=h2;rw [HQ.out] at h2';rw [HB.out];simp [h2',h4]
   have h3:((kk:Int) != k)=false:=(by simpa using h4);rw [hnb,if_neg (by simp)] at HE;clear hnb h4 HB HQ HP HN;by_cases hm:m=0∨m=8;rotate_left
   · have hlb:lb=false:=L1.out (by omega);have hm0 : ¬ m=0:=(by omega);have hm8 : ¬ m=8:=(by omega);have t0:(m != 0)=true:=(by simpa using hm0);have t8:(m != 8)=true:=(by simpa using hm8);clear hm;(go_wp2_with fail);go_ret;exact ⟨by rw [HE.out,hlb]; rfl,HU.out⟩
   · have HV:Hid ((E=2∧(¬ (0≤l∧l≤2147483647∧0≤wh∧wh≤2147483647∧0≤pos∧pos≤2147483647)∨(k=2 ∧ ¬ (sum=0∧l=0∧wh=0∧m=0))∨(k≠2∧m=0∧l≠wh))) ∨
      (E=if md<0∨511<md then 12 else if tb=false then 13 else 0)∧(0≤l∧l≤2147483647∧0≤wh∧wh≤2147483647∧0≤pos∧pos≤2147483647)∧((k=2∧sum=0∧l=0∧wh=0∧m=0)∨(k≠2∧(m=8∨l=wh)))):=Hi (by
      have h5:=L5.out hm;rw [HE.out];by_cases hr:0≤l∧l≤2147483647∧0≤wh∧wh≤2147483647∧0≤pos∧pos≤2147483647
      · rw [h5 (by unfold yZ; simp; omega) (by unfold yZ; simp; omega) (by unfold yZ; simp; omega)];by_cases hk:k=2
        · by_cases hz:sum=0∧l=0∧wh=0∧m=0
          · refine .inr ⟨if_neg ?_,hr,.inl ⟨hk,hz⟩⟩;obtain ⟨z1,z2,z3,z4⟩:=hz;simp [hk,z2,z3,z4]; omega
          · refine .inl ⟨if_pos ?_,.inr (.inl ⟨hk,hz⟩)⟩;rw [if_pos hk]; simp; omega
        · by_cases hz:m=8∨l=wh
          · refine .inr ⟨if_neg ?_,hr,.inr ⟨hk,hz⟩⟩;rw [if_neg hk]; simp; omega
          · refine .inl ⟨if_pos ?_,.inr (.inr ⟨hk,by omega,by omega⟩)⟩;rw [if_neg hk]; simp; omega
      · refine .inl ⟨if_pos ?_,.inl hr⟩;rcases (by omega : ¬ (0≤l∧l≤2147483647) ∨ ¬ (0≤wh∧wh≤2147483647) ∨ ¬ (0≤pos∧pos≤2147483647)) with h | h | h
        · exact L2.out (by unfold yZ; simp; omega)
        · exact L3.out (by unfold yZ; simp; omega)
        · exact L4.out (by unfold yZ; simp; omega))
     clear HE L1 L2 L3 L4 L5;rcases hm with rfl | rfl;all_goals
      (go_wp2_with fail);have HW:=Hi (HU.out.alloc (.cells #[.int .i64 l,.int .i64 wh,.int .i64 pos] 3));have hB3:=HBB.out.alloc (.cells #[.int .i64 l,.int .i64 wh,.int .i64 pos] 3);have hS:=Blk.new w2 [.int .i64 l,.int .i64 wh,.int .i64 pos] 3;change Code.wp _ _ _ _ (w2.alloc (.cells #[.int .i64 l,.int .i64 wh,.int .i64 pos] 3));generalize w2.alloc (.cells #[.int .i64 l,.int .i64 wh,.int .i64 pos] 3)=w3 at *;generalize w2.heap.size=b3 at *;have dA:=hB3.all;have eA:=hS.all;clear hS hB3 HBB cA;go_loopg [7,45] 3 (fun gg s7 s45 wr => ∃ i,i≤3∧gg=3-i∧s45 = .int .i64 (i:Nat)∧Hid ((0<i→0≤l∧l≤2147483647)∧(1<i→0≤wh∧wh≤2147483647)∧(2<i→0≤pos∧pos≤2147483647))∧wr=w3)
      case atStart=>exact ⟨0,by omega,rfl,rfl,Hi (by omega),rfl⟩
      case round =>
       obtain ⟨i,hi,rfl,rfl,HR,rfl⟩:=hrel;rcases (by omega:i=0∨i=1∨i=2∨i=3) with rfl | rfl | rfl | rfl
       iterate 3
        · (go_wp2_with fail);all_goals first
           | (go_ret; exact ⟨by have:=HV.out; obtain rfl:E=2:=by omega
                                rfl,HW.out⟩)
           | (go_roundg (3-1); exact ⟨1,by omega,rfl,rfl,Hi (by have:=HR.out; omega),rfl⟩; omega)
           | (go_roundg (3-2); exact ⟨2,by omega,rfl,rfl,Hi (by have:=HR.out; omega),rfl⟩; omega)
           | (go_roundg (3-3); exact ⟨3,by omega,rfl,rfl,Hi (by have:=HR.out; omega),rfl⟩; omega)
       have hr:=Hi HR.out;rcases HV.out with ⟨rfl,hv⟩ | ⟨hE,hv1,hv2⟩
       · have hv:=Hi hv;clear HT HV HR;(go_wp2_with fail);(all_goals (have hv:=hv.out; have hr:=hr.out; try simp only [bne_iff_ne,bne_eq_false_iff_eq,ne_eq,and_true,true_and,not_true_eq_false,false_and,or_false] at *));all_goals first | (exfalso; omega) | (go_ret; exact ⟨rfl,HW.out⟩)
       · have HE:=Hi hE;have hv:=Hi (And.intro hv1 hv2);rcases hv2 with ⟨rfl,rfl,rfl,rfl,-⟩ | ⟨hk,-⟩;all_goals
          clear hE HV HR hv1;(go_wp2_with fail);all_goals first
           | (have hv:=hv.out
              have hr:=hr.out;(try simp only [bne_iff_ne,bne_eq_false_iff_eq,ne_eq,and_true,true_and,not_true_eq_false,false_and,or_false] at *);exfalso; omega)
           | (go_ret
              refine ⟨?_,HW.out⟩;rw [HE.out,if_pos (by omega)]; rfl)
           | (refine (HT.out _).mono ?_
              rintro e w4 ⟨rfl,hU4⟩;have HG:=Hi (HW.out.then hU4);have HE:=Hi (HE.out.trans (if_neg (by omega)));clear dA eA hU4;cases tb;all_goals
               (go_wp2_with fail);go_ret;exact ⟨by rw [HE.out]; rfl,HG.out⟩)
 · have hnb:nb=false:=by
    rw [HB.out];cases okb with
    | false=>rfl
    | true =>
      by_cases h2:a=zf p
      · by_cases h4:(kk:Int)=k
        · exact absurd ⟨rfl,by rw [HQ.out]; exact h2,h4⟩ hn
        · simp [h4]
      · simp [h2]
   have hn':okb=false ∨ ¬ (zg a).toList=p.toList∨((kk:Int) != k)=true:=by
    cases okb with
    | false=>exact .inl rfl
    | true =>
      by_cases h2:(zg a).toList=p.toList
      · exact .inr (.inr (by simpa using fun h4=>hn ⟨rfl,h2,h4⟩))
      · exact .inr (.inl h2)
   clear hn;rcases hn' with rfl | hn' | hn';all_goals go_wp2_with fail
   all_goals (try (exfalso; simp_all; done))
   all_goals (go_ret; exact ⟨by rw [HE.out,hnb]; rfl,HU.out⟩)
theorem zaa : ∀ l:List RecD,(vh l).length=l.length*9
 | []=>rfl
 | r::l=>by
   have e:vh (r::l)=r.cells++vh l:=(by simp [vh]);rw [e,List.length_append,zaa l,List.length_cons,Nat.succ_mul];rw [Nat.add_comm];rfl
theorem zhU (l:List RecD) (j f:Nat) (hj:j<l.length) (hf:f<9):(vh l)[j*9+f]? =(l[j].cells)[f]?:=by
 have e:vh l=vh (l.take j)++(l[j].cells++vh (l.drop (j+1))):=by
  conv=>lhs; rw [← List.take_append_drop j l,za5,List.drop_eq_getElem_cons hj]
  congr 1
 have hk:(vh (l.take j)).length=j*9:=by rw [zaa,List.length_take,Nat.min_eq_left (by omega)]
 rw [e,List.getElem?_append_right (by omega),hk,Nat.add_sub_cancel_left,List.getElem?_append_left (by show f<9; exact hf)]
def RecsAt (w:World) (v:Value) (l:List RecD):Prop := ∃ a cap,v = .slice a l.length cap ∧ ∀ i,(hi:i<l.length) → ∃ b off,a=some ⟨b,off,none⟩ ∧ ∀ f u,l[i].cells[f]? =some u→w.cell? ⟨b,off+i*9+f,none⟩=some u
theorem Row.recsAt {w:World} {v:Value} {l:List RecD} (h:Row w 26 9 v l.length (vh l)):RecsAt w v l:=by
 obtain ⟨a,cap,rfl⟩:=h.form;refine ⟨a,cap,rfl,fun i hi=>?_⟩;obtain ⟨g,cap',hv,_⟩:=h.form' (by omega);simp only [Value.slice.injEq] at hv;obtain ⟨rfl,_,rfl⟩:=hv;refine ⟨g,0,rfl,fun f u hu=>?_⟩;have hf:f<9:=(List.getElem?_eq_some_iff.1 hu).1;rw [Nat.zero_add];exact h.cell (i*9+f) (by rw [zhU l i f hi hf]; exact hu)
end Go.Proofs.YtfkenhihcmmgkaaGreatDoor
namespace Go.Proofs.YtfkenhihcmmgkaaGreatDoor
theorem JO {P:Program} {md:Region.Mode} {ops:Array Oper} {Q:Exit→Act→World→Prop} {S S':World→Prop} (h : ∀ w,S' w→S w) :
 ∀ (fuel:Nat) (listed:Array Bool) (a:Act) (w:World),wpAnyH P md ops Q S' fuel listed a w→wpAnyH P md ops Q S fuel listed a w
 | 0,_,_,_,k=>k
 | fuel+1,_,_,_,k=>⟨k.1,fun i hi=>wpOp_mono (fun a' w' h'=>⟨h _ h'.1,JO h fuel _ a' w' h'.2⟩) (k.2 i hi)⟩
theorem Upd.keep {W w:World} {p:Addr} {v:Value} (h:Upd [] W w) (hc:W.cell? p=some v):w.cell? p=some v:=(h.cell (World.block_lt_of_cell? W p hc) (by simp)).trans hc
theorem Upd.keepN {fp:List Nat} {W w:World} {p:Addr} {v:Value} (h:Upd fp W w) (hc:W.cell? p=some v) (hn:p.block∉fp):w.cell? p=some v:=(h.cell (World.block_lt_of_cell? W p hc) hn).trans hc
def CF (w:World):List (Addr×Value)→Prop
 | []=>True
 | x::r=>w.cell? x.1=some x.2∧CF w r
theorem CF.upd {w w':World} {g:List Nat} (hU:Upd g w w') : ∀ {fs:List (Addr×Value)},CF w fs→(∀ x∈fs,x.1.block∉g)→CF w' fs
 | [],_,_=>trivial
 | x::r,h,hn=>⟨hU.keepN h.1 (hn x List.mem_cons_self),CF.upd hU h.2 (fun y hy=>hn y (List.mem_cons_of_mem _ hy))⟩
theorem CF.set {w:World} {p:Addr} (u:Value) : ∀ {fs:List (Addr×Value)},CF w fs→(∀ x∈fs,x.1≠p)→CF (w.setCell p u) fs
 | [],_,_=>trivial
 | x::r,h,hn=>⟨(World.cell?_setCell_other w p x.1 u (fun e=>hn x List.mem_cons_self e.symm)).trans h.1,CF.set u h.2 (fun y hy=>hn y (List.mem_cons_of_mem _ hy))⟩
structure HC (fp:List Nat) (W:World) (fs:List (Addr×Value)) (w:World):Prop where
 upd:Upd fp W w
 cells:CF w fs
theorem HC.of {fp:List Nat} {W:World} {fs:List (Addr×Value)} (h:CF W fs):HC fp W fs W:=⟨Upd.refl fp W,h⟩
theorem HC.drew {fp:List Nat} {W w:World} {fs:List (Addr×Value)} (h:HC fp W fs w):HC fp W fs w.drew:=⟨h.upd.drew,CF.upd ((Upd.refl [] w).drew) h.cells (by simp)⟩
theorem HC.alloc {fp:List Nat} {W w:World} {fs:List (Addr×Value)} (h:HC fp W fs w) (o:Obj):HC fp W fs (w.alloc o):=⟨h.upd.alloc o,CF.upd ((Upd.refl [] w).alloc o) h.cells (by simp)⟩
theorem HC.then {fp:List Nat} {W w w':World} {fs:List (Addr×Value)} (h:HC fp W fs w) (hU:Upd [] w w'):HC fp W fs w':=⟨h.upd.trans hU (by simp),CF.upd hU h.cells (by simp)⟩
theorem HC.thenF {fp g:List Nat} {W w w':World} {fs:List (Addr×Value)} (h:HC fp W fs w) (hU:Upd g w w') (hg : ∀ k,k∈g→k∈fp∨W.heap.size≤k) (hn : ∀ x∈fs,x.1.block∉g):HC fp W fs w':=⟨h.upd.trans hU hg,CF.upd hU h.cells hn⟩
theorem HC.set {fp:List Nat} {W w:World} {fs:List (Addr×Value)} (h:HC fp W fs w) (p:Addr) (u:Value) (hp:p.block∈fp∨W.heap.size≤p.block) (hn : ∀ x∈fs,x.1≠p):HC fp W fs (w.setCell p u):=⟨h.upd.setCell hp u,CF.set u h.cells hn⟩
theorem CF.sub {w:World} : ∀ {fs fs':List (Addr×Value)},CF w fs'→(∀ x∈fs,x∈fs')→CF w fs
 | [],_,_,_=>trivial
 | x::r,fs',h,hs=>by
   refine ⟨?_,CF.sub h (fun y hy=>hs y (List.mem_cons_of_mem _ hy))⟩;have : ∀ {fs:List (Addr×Value)},CF w fs → ∀ y∈fs,w.cell? y.1=some y.2:=by
    intro fs
    induction fs with
    | nil=>intro _ y hy; cases hy
    | cons z r ih =>
      intro h y hy;rcases List.mem_cons.1 hy with rfl | hy
      · exact h.1
      · exact ih h.2 y hy
   exact this h x (hs x List.mem_cons_self)
theorem HC.more {fp:List Nat} {W z w:World} {fs fs':List (Addr×Value)} (h:HC fp W fs z) (hs : ∀ x∈fs,x∈fs') (k:HC fp z fs' w):HC fp W fs w:=⟨h.upd.trans k.upd (fun _ h => .inl h),k.cells.sub hs⟩
end Go.Proofs.YtfkenhihcmmgkaaGreatDoor
namespace Go.Proofs.YtfkenhihcmmgkaaGreatDoor
open Go.RowKit
theorem zcs (l:List RecD) (v:Value) (w:World) (h:RecsAt w v l) (hl : ∀ r∈l,r.Fits) (hn:l.length≤100000):Calls Tryz.prog 25 #[v] w fun e w'=>e = .returned (.int .i64 (qt l:Nat))∧Upd [] w w':=by
 have hd:=Qv l (fun r hr=>(hl r hr).p);obtain ⟨a,cap,rfl,h⟩:=h;have H:=Hi h;have HL:=Hi hl;have HLE:=Hi (fun i=>Qv (l.take i) (fun r hr=>(HL.out r (List.mem_of_mem_take hr)).p));clear h hl;obtain ⟨n,hnn⟩ : ∃ n,l.length=n:=⟨_,rfl⟩;rw [hnn] at hn hd ⊢;have HN:=Hi hnn;clear hnn;go_enter Tryz.func25,Tryz.ntmps25;go_wp2;go_loopg [2,7] n (fun gg s2 s7 wr => ∃ i,i≤n∧gg=n-i∧s7 = .int .i64 (i:Nat)∧s2 = .int .i64 (qt (l.take i):Nat)∧qt (l.take i)≤i*1047∧Hid (Upd [] w wr))
 case atStart=>exact ⟨0,Nat.zero_le _,rfl,rfl,rfl,Nat.zero_le _,Hi (Upd.refl _ _)⟩
 case round =>
  obtain ⟨i,hin,rfl,rfl,rfl,hdi,HU⟩:=hrel;by_cases hc:i<n
  · have hcz:(i:Int)<(n:Int):=(by omega);have hil:i<l.length:=(by rw [HN.out]; exact hc);obtain ⟨b1,o1,rfl,g1⟩:=H.out i hil;obtain ⟨r,hr⟩ : ∃ r,r=l[i]:=⟨_,rfl⟩;rw [← hr] at g1;have hf:r.Fits:=HL.out r (by rw [hr]; exact List.getElem_mem hil);have HSZ:=Hi (fun z=>zeh r z hf);have HD:Hid (qt (l.take (i+1))=qt (l.take i)+(46+(zw r.k r.p).length)):=Hi (by rw [List.take_succ_eq_append_getElem hil,VR,← hr]);have hnl:(zw r.k r.p).length≤1001:=(by have:=xn r.k r.p; have:=hf.p; omega);have HCA:=Hi (fun f x h=>HU.out.keep (g1 f x h));clear g1 hf hr;generalize qt (l.take i)=di at *;obtain ⟨p,m,sum,l2,wh,k,md,t,pos⟩:=r;unfold RecD.v at HSZ;unfold RecD.cells at HCA;dsimp only at HSZ HCA HD hnl;generalize (zw k p).length=nl at *;have hw1:IntKind.i64.wrap ((i:Int)+1)=(i:Int)+1:=IntWalk.i64_in _ (by omega);have hw2:IntKind.i64.wrap ((di:Int)+((46+nl:Nat):Int))=(di:Int)+((46+nl:Nat):Int):=IntWalk.i64_in _ (by omega);have c0:=HCA.out 0 (.string p) rfl;have c1:=HCA.out 1 (.int .i64 m) rfl;have c2:=HCA.out 2 (.int .u32 (sum:Nat)) rfl;have c3:=HCA.out 3 (.int .i64 l2) rfl;have c4:=HCA.out 4 (.int .i64 wh) rfl;have c5:=HCA.out 5 (.int .i64 k) rfl;have c6:=HCA.out 6 (.int .i64 md) rfl;have c7:=HCA.out 7 (.int .u32 (t:Nat)) rfl;have c8:=HCA.out 8 (.int .i64 pos) rfl;simp only [Nat.add_zero] at c0;have HB:=Hi (Blk.new wr [.string p,.int .i64 m,.int .u32 (sum:Nat),.int .i64 l2,.int .i64 wh,.int .i64 k,.int .i64 md,.int .u32 (t:Nat),.int .i64 pos] 26);have HU1:=Hi (HU.out.alloc (.cells #[.string p,.int .i64 m,.int .u32 (sum:Nat),.int .i64 l2,.int .i64 wh,.int .i64 k,.int .i64 md,.int .u32 (t:Nat),.int .i64 pos] 26));(go_upto_region 4 with fail);change Code.wp _ _ _ _ (wr.alloc (.cells #[.string p,.int .i64 m,.int .u32 (sum:Nat),.int .i64 l2,.int .i64 wh,.int .i64 k,.int .i64 md,.int .u32 (t:Nat),.int .i64 pos] 26));generalize wr.alloc (.cells #[.string p,.int .i64 m,.int .u32 (sum:Nat),.int .i64 l2,.int .i64 wh,.int .i64 k,.int .i64 md,.int .u32 (t:Nat),.int .i64 pos] 26)=w2 at *;generalize wr.heap.size=q at *;clear c0 c1 c2 c3 c4 c5 c6 c7 c8 HCA HU;have kA:=HB.out.all;(go_wp2_with fail);refine (HSZ.out _).mono ?_;rintro e w3 ⟨rfl,hu3⟩;have HU3:=Hi (HU1.out.then hu3);clear kA hu3 HB HU1;go_wp2;go_roundg (n-(i+1))
    · exact ⟨i+1,by omega,rfl,by first | rfl | go_num,by rw [HD.out]; first | rfl | go_num,by rw [HD.out]; omega,HU3⟩
    · omega
  · have hcz : ¬ (i:Int)<(n:Int):=(by omega);obtain rfl:i=n:=(by omega);have HT:Hid (l.take i=l):=Hi (List.take_of_length_le (by rw [HN.out]; omega));rw [HT.out];go_wp2;go_ret;exact ⟨rfl,HU.out⟩
theorem zhR {w w':World} {v:Value} {l:List RecD} (h:RecsAt w v l) (hu:Upd [] w w'):RecsAt w' v l:=by
 obtain ⟨a,cap,e,h⟩:=h;exact ⟨a,cap,e,fun i hi=>by
  obtain ⟨b,off,e2,h2⟩:=h i hi;exact ⟨b,off,e2,fun f u hf=>hu.keep (h2 f u hf)⟩⟩
theorem zeQ (b:Nat) (x o:Int×Int) (w:World) (h:Blk w b [.int .i64 x.1,.int .i64 x.2] 65) :
 Calls Tryz.prog 27 #[.agg #[.int .i64 o.1,.int .i64 o.2],.pointer (some ⟨b,0,none⟩)] w fun e w'=>e = .returned (.bool (yR x o))∧Upd [] w w':=by
 obtain ⟨x1,x2⟩:=x;obtain ⟨o1,o2⟩:=o;dsimp only at h ⊢;have HV:Hid (yR (x1,x2) (o1,o2)=(decide (o1<x2)&&decide (x1<o2))):=Hi rfl;generalize yR (x1,x2) (o1,o2)=B at *;have HA:=Hi (h.alloc (.cells #[.int .i64 o1,.int .i64 o2] 65));have HO:=Hi (Blk.new w [.int .i64 o1,.int .i64 o2] 65);have HU:=Hi ((Upd.refl [] w).alloc (.cells #[.int .i64 o1,.int .i64 o2] 65));clear h;go_enter Tryz.func27,Tryz.ntmps27;go_upto_region 1 with fail
 change Code.wp _ _ _ _ (w.alloc (.cells #[.int .i64 o1,.int .i64 o2] 65));generalize w.alloc (.cells #[.int .i64 o1,.int .i64 o2] 65)=w1 at *;generalize w.heap.size=q at *;have cA:=HA.out.all;have dA:=HO.out.all;by_cases h1:o1<x2
 · have t1:decide (o1<x2)=true:=decide_eq_true h1;by_cases h2:x1<o2
   · have t2:decide (x1<o2)=true:=decide_eq_true h2;go_wp2;go_returns;exact ⟨by rw [HV.out,t1,t2]; rfl,HU.out⟩
   · have t2:decide (x1<o2)=false:=decide_eq_false h2;go_wp2;go_returns;exact ⟨by rw [HV.out,t1,t2]; rfl,HU.out⟩
 · have t1:decide (o1<x2)=false:=decide_eq_false h1;go_wp2;go_returns;exact ⟨by rw [HV.out,t1]; rfl,HU.out⟩
def SpAt (w:World) (v:Value) (l:List (Int×Int)):Prop := ∃ a cap,v = .slice a l.length cap∧l.length≤cap ∧ ∀ i,(hi:i<l.length) → ∃ b off,a=some ⟨b,off,none⟩∧w.cell? ⟨b,off+i*2,none⟩=some (.int .i64 l[i].1)∧w.cell? ⟨b,off+i*2+1,none⟩=some (.int .i64 l[i].2)
theorem Row.spAt {w:World} {v:Value} {l:List (Int×Int)} (h:Row w 65 2 v l.length (spC l)):SpAt w v l:=by
 obtain ⟨a,cap,rfl⟩:=h.form;rcases Nat.eq_zero_or_pos l.length with h0 | h0
 · refine ⟨a,cap,rfl,by omega,fun i hi=>by omega⟩
 · obtain ⟨g,cap',hv,_,hc⟩:=h.form' h0;simp only [Value.slice.injEq] at hv;obtain ⟨rfl,_,rfl⟩:=hv;exact ⟨_,_,rfl,hc,fun i hi=>⟨g,0,rfl,by rw [Nat.zero_add]; exact h.cell (i*2) (zdr l i hi).1,by rw [Nat.zero_add]; exact h.cell (i*2+1) (zdr l i hi).2⟩⟩
theorem zaB (l:List (Int×Int)) (v:Value) (b:Nat) (x:Int×Int) (w:World) (hv:SpAt w v l) (hl:l.length≤1000000) (hb:Blk w b [.int .i64 x.1,.int .i64 x.2] 65) :
 Calls Tryz.prog 62 #[v,.func (.func 27) #[] #[.pointer (some ⟨b,0,none⟩)]] w fun e w'=>e = .returned (.int .i64 (WB (yR x) l))∧Upd [] w w':=by
 obtain ⟨a1,cap1,rfl,hcap1,hc1⟩:=hv;have HC1:=Hi hc1;have HFF:=Hi (fun o z (hz:Upd [] w z)=>zeQ b x o z (hb.upd hz (by simp)));have HY:=Hi (@zgf _ (yR x) l);have HNO:=Hi (@zjb _ (yR x) l);generalize yR x=pr at *;obtain ⟨n,hn⟩ : ∃ n,l.length=n:=⟨_,rfl⟩;have HN1:=Hi hn;rw [hn] at hcap1 hl ⊢;clear hc1 hn hb;go_enter Tryz.func62,Tryz.ntmps62;go_wp2;go_loopg [8] n (fun gg s8 wr => ∃ i,i≤n∧gg=n-i∧s8 = .int .i64 (i:Nat)∧Hid (∀ j,(hj:j<l.length)→j<i→pr l[j]=false)∧Hid (Upd [] w wr))
 case atStart=>exact ⟨0,Nat.zero_le _,rfl,rfl,Hi (fun j _ h=>by omega),Hi (Upd.refl _ _)⟩
 case round =>
  obtain ⟨i,hin,rfl,rfl,HT,HU⟩:=hrel;by_cases hc:i<n
  · have hcz:(i:Int)<(n:Int):=(by omega);have hi1:i<l.length:=(by rw [HN1.out]; exact hc);obtain ⟨b1,o1,rfl,d1,d2⟩:=HC1.out i hi1;have c1:=HU.out.keep d1;have c2:=HU.out.keep d2;have HX:=Hi (fun z (hz:Upd [] wr z)=>HFF.out l[i] z (HU.out.then hz));have HYI:=Hi (fun h=>HY.out i hi1 h HT.out);have HTI:Hid (pr l[i]=false → ∀ j,(hj:j<l.length)→j<i+1→pr l[j]=false):=Hi (fun h j hj hlt=>by
     rcases Nat.lt_or_ge j i with hji | hji
     · exact HT.out j hj hji
     · have:j=i:=(by omega);subst this; exact h)
    have hw1:IntKind.i64.wrap ((i:Int)+1)=((i+1:Nat):Int):=(by rw [IntWalk.i64_in _ (by omega)]; rfl);generalize l[i]=y at *;obtain ⟨B,hB⟩ : ∃ B,pr y=B:=⟨_,rfl⟩;rw [hB] at HX HYI HTI;clear hB d1 d2;obtain ⟨y1,y2⟩:=y;dsimp only at c1 c2 HX;cases B with
    | true =>
      have HV:=Hi (HYI.out rfl);clear HYI HTI;(go_wp2_with fail);refine (HX.out _ (Upd.refl _ _)).mono ?_;rintro e w2 ⟨rfl,hu2⟩;go_wp2;go_ret;exact ⟨by rw [HV.out]; rfl,HU.out.then hu2⟩
    | false =>
      have HT2:=Hi (HTI.out rfl);clear HYI HTI;(go_wp2_with fail);refine (HX.out _ (Upd.refl _ _)).mono ?_;rintro e w2 ⟨rfl,hu2⟩;have HU2:=Hi (HU.out.then hu2);clear hu2;go_wp2;go_roundg (n-(i+1))
      · exact ⟨i+1,by omega,rfl,by first | rfl | go_num,HT2,HU2⟩
      · omega
  · have hcz : ¬ (i:Int)<(n:Int):=(by omega);obtain rfl:i=n:=(by omega);have HV:=Hi (HNO.out (fun j hj=>HT.out j hj (by rw [← HN1.out]; exact hj)));go_wp2;go_ret;exact ⟨by rw [HV.out]; rfl,HU.out⟩
theorem Xj (l:List (Int×Int)) (v:Value) (b:Nat) (x:Int×Int) (w:World) (hv:SpAt w v l) (hl:l.length≤1000000) (hb:Blk w b [.int .i64 x.1,.int .i64 x.2] 65) :
 Calls Tryz.prog 28 #[v,.func (.func 27) #[] #[.pointer (some ⟨b,0,none⟩)]] w fun e w'=>e = .returned (.bool (l.any (yR x)))∧Upd [] w w':=by
 have HI:=Hi (zaB l v b x w hv hl hb);rw [← zgQ];generalize WB (yR x) l=z at *;clear hl hv hb;go_enter Tryz.func28,Tryz.ntmps28;go_wp2_with fail
 refine HI.out.mono ?_;rintro e w2 ⟨rfl,hu2⟩;go_wp2;go_ret;exact ⟨rfl,hu2⟩
theorem Yl {a b:ByteArray} (h:a≠b):(a.toList==b.toList)=false:=by
 rw [beq_eq_false_iff_ne];intro h2;rw [ByteArray.toList_eq,ByteArray.toList_eq] at h2;exact h (ByteArray.ext (Array.ext' h2))
theorem zjZ (p p2:ByteArray) (m m2 k k2 pos pos2 l wh md:Int) (sum t t2:Nat) (w:World) :
 (binOp .eql 26 (.agg #[.string p,.int .i64 m,.int .u32 (sum:Nat),.int .i64 l,.int .i64 wh,.int .i64 k,.int .i64 md,.int .u32 (t:Nat),.int .i64 pos]) (.agg #[.string p2,.int .i64 m2,.int .u32 (sum:Nat),.int .i64 l,.int .i64 wh,.int .i64 k2,.int .i64 md,.int .u32 (t2:Nat),.int .i64 pos2])).run Tryz.prog w = .ok (.bool (decide (p=p2∧m=m2∧k=k2∧t=t2∧pos=pos2))) w:=by
 by_cases h0:p=p2
 · subst h0;by_cases h1:m=m2
   · subst h1;by_cases h2:k=k2
     · subst h2;by_cases h3:t=t2
       · subst h3;by_cases h4:pos=pos2
         · subst h4;go_simp
         · have e:(pos==pos2)=false:=(by simp [h4]);have e2:decide (pos=pos2)=false:=decide_eq_false h4;go_simp
       · have e:((t:Int)==(t2:Int))=false:=(by simp; omega);have e2:decide (t=t2)=false:=decide_eq_false h3;go_simp
     · have e:(k==k2)=false:=(by simp [h2]);go_simp
   · have e:(m==m2)=false:=(by simp [h1]);go_simp
 · have e:=Yl h0;go_simp
theorem zeO (h r:RecD) (w:World) :
 Calls Tryz.prog 59 #[h.v,r.v] w fun e w'=>e = .returned (.bool (Je h r))∧Upd [] w w':=by
 obtain ⟨p,m,sum,l,wh,k,md,t,pos⟩:=h;obtain ⟨p2,m2,sum2,l2,wh2,k2,md2,t2,pos2⟩:=r;unfold RecD.v Je;dsimp only;have HQ:=Hi (fun w=>zjZ p p2 m m2 k k2 pos pos2 l2 wh2 md2 sum2 t t2 w);generalize decide (p=p2∧m=m2∧k=k2∧t=t2∧pos=pos2)=B at *;have HA:=Hi ((Blk.new w [.string p,.int .i64 m,.int .u32 (sum:Nat),.int .i64 l,.int .i64 wh,.int .i64 k,.int .i64 md,.int .u32 (t:Nat),.int .i64 pos] 26).alloc (.cells #[.string p2,.int .i64 m2,.int .u32 (sum2:Nat),.int .i64 l2,.int .i64 wh2,.int .i64 k2,.int .i64 md2,.int .u32 (t2:Nat),.int .i64 pos2] 26));have HB:Hid (Blk ((w.alloc (.cells #[.string p,.int .i64 m,.int .u32 (sum:Nat),.int .i64 l,.int .i64 wh,.int .i64 k,.int .i64 md,.int .u32 (t:Nat),.int .i64 pos] 26)).alloc (.cells #[.string p2,.int .i64 m2,.int .u32 (sum2:Nat),.int .i64 l2,.int .i64 wh2,.int .i64 k2,.int .i64 md2,.int .u32 (t2:Nat),.int .i64 pos2] 26)) (w.heap.size+1) [.string p2,.int .i64 m2,.int .u32 (sum2:Nat),.int .i64 l2,.int .i64 wh2,.int .i64 k2,.int .i64 md2,.int .u32 (t2:Nat),.int .i64 pos2] 26):=Hi (by
  have h:=Blk.new (w.alloc (.cells #[.string p,.int .i64 m,.int .u32 (sum:Nat),.int .i64 l,.int .i64 wh,.int .i64 k,.int .i64 md,.int .u32 (t:Nat),.int .i64 pos] 26)) [.string p2,.int .i64 m2,.int .u32 (sum2:Nat),.int .i64 l2,.int .i64 wh2,.int .i64 k2,.int .i64 md2,.int .u32 (t2:Nat),.int .i64 pos2] 26;simpa using h)
 have HU:=Hi (((Upd.refl [] w).alloc (.cells #[.string p,.int .i64 m,.int .u32 (sum:Nat),.int .i64 l,.int .i64 wh,.int .i64 k,.int .i64 md,.int .u32 (t:Nat),.int .i64 pos] 26)).alloc (.cells #[.string p2,.int .i64 m2,.int .u32 (sum2:Nat),.int .i64 l2,.int .i64 wh2,.int .i64 k2,.int .i64 md2,.int .u32 (t2:Nat),.int .i64 pos2] 26));go_enter Tryz.func59,Tryz.ntmps59;go_upto_region 1 with fail
 change Code.wp _ _ _ _ ((w.alloc (.cells #[.string p,.int .i64 m,.int .u32 (sum:Nat),.int .i64 l,.int .i64 wh,.int .i64 k,.int .i64 md,.int .u32 (t:Nat),.int .i64 pos] 26)).alloc (.cells #[.string p2,.int .i64 m2,.int .u32 (sum2:Nat),.int .i64 l2,.int .i64 wh2,.int .i64 k2,.int .i64 md2,.int .u32 (t2:Nat),.int .i64 pos2] 26));generalize (w.alloc (.cells #[.string p,.int .i64 m,.int .u32 (sum:Nat),.int .i64 l,.int .i64 wh,.int .i64 k,.int .i64 md,.int .u32 (t:Nat),.int .i64 pos] 26)).alloc (.cells #[.string p2,.int .i64 m2,.int .u32 (sum2:Nat),.int .i64 l2,.int .i64 wh2,.int .i64 k2,.int .i64 md2,.int .u32 (t2:Nat),.int .i64 pos2] 26)=w1 at *;obtain ⟨b,hb⟩ : ∃ b,w.heap.size=b:=⟨_,rfl⟩;obtain ⟨c,hc⟩ : ∃ c,b+1=c:=⟨_,rfl⟩;rw [hb] at HA HB ⊢;rw [hc] at HB ⊢;have hbc:b≠c:=by omega
 have hcb:c≠b:=by omega
 have HW:=Hi (show w.heap.size≤b by omega);clear hb hc;have rA:=HB.out.all;go_cut [4] (fun s4 wx=>s4 = .bool false∧Blk wx b [.string p,.int .i64 m,.int .u32 (sum2:Nat),.int .i64 l2,.int .i64 wh2,.int .i64 k,.int .i64 md2,.int .u32 (t:Nat),.int .i64 pos] 26∧Blk wx c [.string p2,.int .i64 m2,.int .u32 (sum2:Nat),.int .i64 l2,.int .i64 wh2,.int .i64 k2,.int .i64 md2,.int .u32 (t2:Nat),.int .i64 pos2] 26∧Upd [] w wx)
 case first =>
  have HA0:=Hi HA.out.drew;have HB0:=Hi HB.out.drew;have HU0:=Hi HU.out.drew;refine wp_region_held_drew (S:=fun w'=>Blk w' c [.string p2,.int .i64 m2,.int .u32 (sum2:Nat),.int .i64 l2,.int .i64 wh2,.int .i64 k2,.int .i64 md2,.int .u32 (t2:Nat),.int .i64 pos2] 26) (by kernel_rfl) HB.out.drew (fun hHeld=>hdN ?_);generalize w1.drew=W0 at *;clear HA HB HU rA;refine hdT 0 (some 5) ?_; refine hdT 1 (some 6) ?_ (hy:=by intro w0 hSw; have q0:=hSw.cell 6 rfl; go_simp; try with_reducible rfl);refine hdT 2 (some 7) ?_; refine hdT 3 (some 8) ?_ (hy:=by intro w0 hSw; have q0:=hSw.cell 2 rfl; go_simp; try with_reducible rfl);refine hdT 4 (some 9) ?_; refine hdT 5 (some 10) ?_ (hy:=by intro w0 hSw; have q0:=hSw.cell 3 rfl; go_simp; try with_reducible rfl);refine hdT 6 (some 11) ?_; refine hdT 7 (some 12) ?_ (hy:=by intro w0 hSw; have q0:=hSw.cell 4 rfl; go_simp; try with_reducible rfl);refine hdT 8 (some 13) ?_;refine hdO 9 (fun K hK=>?_);have kc:=HA0.out.cell 6 rfl;have kf:=HA0.out.frz 6;go_simp;go_wp2;refine hK.out _ _ (HB0.out.setFar (a:=⟨b,6,none⟩) _ hcb) (fun hHeld=>hdN ?_);clear hK K;have HA1:=Hi (HA0.out.set 6 (.int .i64 md2));have HB1:=Hi hHeld;have HU1:=Hi (HU0.out.setCell (p:=⟨b,6,none⟩) (.inr HW.out) (.int .i64 md2));generalize W0.setCell ⟨b,6,none⟩ (.int .i64 md2)=W1 at *;clear kc kf HA0 HB0 HU0;refine hdT 10 (some 14) ?_;refine hdO 11 (fun K hK=>?_);have kc:=HA1.out.cell 2 rfl;have kf:=HA1.out.frz 2;go_simp;go_wp2;refine hK.out _ _ (HB1.out.setFar (a:=⟨b,2,none⟩) _ hcb) (fun hHeld=>hdN ?_);clear hK K;have HA2:=Hi (HA1.out.set 2 (.int .u32 (sum2:Nat)));have HB2:=Hi hHeld;have HU2:=Hi (HU1.out.setCell (p:=⟨b,2,none⟩) (.inr HW.out) (.int .u32 (sum2:Nat)));generalize W1.setCell ⟨b,2,none⟩ (.int .u32 (sum2:Nat))=W2 at *;clear kc kf HA1 HB1 HU1;refine hdT 12 (some 15) ?_;refine hdO 13 (fun K hK=>?_);have kc:=HA2.out.cell 3 rfl;have kf:=HA2.out.frz 3;go_simp;go_wp2;refine hK.out _ _ (HB2.out.setFar (a:=⟨b,3,none⟩) _ hcb) (fun hHeld=>hdN ?_);clear hK K;have HA3:=Hi (HA2.out.set 3 (.int .i64 l2));have HB3:=Hi hHeld;have HU3:=Hi (HU2.out.setCell (p:=⟨b,3,none⟩) (.inr HW.out) (.int .i64 l2));generalize W2.setCell ⟨b,3,none⟩ (.int .i64 l2)=W3 at *;clear kc kf HA2 HB2 HU2;refine hdT 14 (some 16) ?_;refine hdO 15 (fun K hK=>?_);have kc:=HA3.out.cell 4 rfl;have kf:=HA3.out.frz 4;go_simp;go_wp2;refine hK.out _ _ (HB3.out.setFar (a:=⟨b,4,none⟩) _ hcb) (fun hHeld=>hdN ?_);clear hK K;have HA4:=Hi (HA3.out.set 4 (.int .i64 wh2));have HB4:=Hi hHeld;have HU4:=Hi (HU3.out.setCell (p:=⟨b,4,none⟩) (.inr HW.out) (.int .i64 wh2));generalize W3.setCell ⟨b,4,none⟩ (.int .i64 wh2)=W4 at *;clear kc kf HA3 HB3 HU3;refine wpAnyH_done (by kernel_rfl) ?_ 0;go_wp2;go_meet;exact ⟨rfl,HA4.out,HB4.out,HU4.out⟩
 case rest =>
  obtain ⟨rfl,hA,hB,hU⟩:=hcut;have HUF:=Hi hU;have aA:=hA.all;have bA:=hB.all;have HQ2:=HQ.out;clear hA hB hU HA HB HU rA;go_wp2;go_returns;exact ⟨rfl,HUF.out⟩
end Go.Proofs.YtfkenhihcmmgkaaGreatDoor
