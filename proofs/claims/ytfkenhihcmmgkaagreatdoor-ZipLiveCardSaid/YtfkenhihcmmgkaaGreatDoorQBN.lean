/- Package runs: Of: its walk. -/
import Derived.Test.YtfkenhihcmmgkaaGreatDoorQBM
set_option linter.unusedVariables false
set_option linter.unusedSimpArgs false
set_option linter.unusedSectionVars false
set_option maxRecDepth 100000
set_option maxHeartbeats 12800000
namespace Go.Proofs.YtfkenhihcmmgkaaGreatDoor
open Go.RowKit
theorem zed:(Tryz.prog.info? 351).map (fun i=>(i.zero,i.size,i.bytes))=some (some (.agg #[.int .i64 0,.int .i64 0,.int .i64 0]),3,24):=by kernel_rfl
theorem QL (r:List Int) (a:Int) (h:r≠[]):1≤(yo r a).2∧(yo r a).2≤r.length:=by
 have h1:=kU 0 r;have h2:=kU a r;have h3:1≤r.length:=by cases r with | nil=>exact absurd rfl h | cons=>simp
 unfold yo;split
 · unfold xW Jd; dsimp only; rw [if_neg (by omega),if_neg (by omega)]; omega
 · split
   · unfold xW Jd; dsimp only; rw [if_neg (by omega),if_pos rfl]; omega
   · split
     · unfold xW Jd; dsimp only; rw [if_pos rfl]; omega
     · dsimp only; omega
def ofS:Nat→List Int→Int→List StpD
 | 0,_,_=>[]
 | f+1,r,a=>if r=[] then [] else (yo r a).1::ofS f (r.drop (yo r a).2) (r.getD ((yo r a).2-1) 0)
theorem jJ (f:Nat) (r:List Int) (a:Int):ofS (f+1) r a=if r=[] then [] else (yo r a).1::ofS f (r.drop (yo r a).2) (r.getD ((yo r a).2-1) 0):=by rw [ofS]
theorem Ku (f:Nat) (a:Int):ofS f [] a=[]:=by cases f with | zero=>rfl | succ f=>rw [jJ,if_pos rfl]
theorem Yv : ∀ (f:Nat) (r:List Int) (a:Int),r.length≤f→ofS f r a=ofS r.length r a
 | 0,r,a,h=>by rw [List.eq_nil_of_length_eq_zero (show r.length=0 by omega)]; rfl
 | f+1,r,a,h=>by
   by_cases hr:r=[]
   · rw [hr,Ku,Ku]
   · obtain ⟨h1,h2⟩:=QL r a hr;obtain ⟨m,hm⟩ : ∃ m,r.length=m+1:=⟨r.length-1,by omega⟩;rw [hm,jJ,jJ,if_neg hr,if_neg hr];have hd:(r.drop (yo r a).2).length≤m:=(by rw [List.length_drop]; omega);rw [Yv f _ _ (by omega),Yv m _ _ hd]
 termination_by f=>f
theorem IntsIn.drop {w:World} {b off n:Nat} {l:List Int} (h:IntsIn w (some ⟨b,off,none⟩) n l) (k:Nat) (hk:k≤n):IntsIn w (some ⟨b,off+k,none⟩) (n-k) (l.drop k) :=
 ⟨by rw [List.length_drop,h.len],fun i hi=>by
  rw [List.length_drop,h.len] at hi;obtain ⟨b',off',e,c,r⟩:=h.cell (k+i) (by rw [h.len]; omega);cases e;exact ⟨b,off+k,rfl,by rw [List.getElem_drop,show off+k+i=off+(k+i) by omega]; exact c,by rw [List.getElem_drop]; exact r⟩⟩
def ji (l:List StpD):List Value:=l.flatMap StpD.cs
theorem ziG (s:StpD) : ∀ v∈s.cs,v.oneCell'=true:=by
 intro v hv;simp [StpD.cs] at hv;rcases hv with rfl | rfl | rfl<;>rfl
theorem zjK (w:World) (s:StpD) (T:TypeId) : ∀ j u,s.cs[j]? =some u→(w.alloc (.cells s.cs.toArray T)).cell? ((⟨w.heap.size,0,none⟩:Addr).add j)=some u:=World.news_of_block (cs:=s.cs.toArray) (t:=T) (fr:=(0,0)) (heap_alloc_new _ _)
def zkQ (l:List Int) (n:Nat) (w:World) (e:Ending) (w':World):Prop := ∃ v,e = .returned v∧Row w' 351 3 v (ofS n l (-1)).length (ji (ofS n l (-1)))∧(∀ k,v.ownBlock=some k→w.heap.size≤k)∧Upd [] w w'
theorem zfu (l:List Int) (a:Option Addr) (n cap:Nat) (w:World) (hI:IntsIn w a n l) (hn:n≤400) (hnc:n≤cap) (hb : ∀ x∈l,0≤x∧x≤15) :
 Calls Tryz.prog 299 #[.slice a n cap] w fun e w'=>zkQ l n w e w':=by
 obtain ⟨i0,hi,hz0,hz1,hz2⟩:=info_parts zed;have HI:=Hi hI;have HLN:=Hi hI.len;have HBD:=Hi hb;clear hI hb;have hn400 : ¬ (400:Int)<(n:Int):=by omega
 go_enter Tryz.func299,Tryz.ntmps299;go_wp2;go_loopg [2,13] 1000 (fun gg s2 s13 wr => ∃ i:Nat,i≤n∧gg=1000-i∧s13 = .int .i64 (i:Nat)∧s2 = .slice none 0 0∧wr=w)
 case atStart=>exact ⟨0,by omega,by omega,rfl,rfl,rfl⟩
 case round =>
  obtain ⟨i,hin,rfl,rfl,rfl,hwr⟩:=hrel;subst hwr;by_cases hc:i<n
  · have hcz:(i:Int)<(n:Int):=(by omega);have hil:i<l.length:=(by rw [HLN.out]; exact hc);obtain ⟨b,off,rfl,hc1,_,_⟩:=HI.out.cell i hil;obtain ⟨hx1,hx2⟩:=HBD.out l[i] (List.getElem_mem hil);generalize l[i]=x at *;have hw1:IntKind.i64.wrap ((i:Int)+1)=((i+1:Nat):Int):=(by rw [IntWalk.i64_in _ (by omega)]; rfl);clear hil;go_wp2;go_roundg (1000-(i+1))
    · exact ⟨i+1,by omega,by first | rfl | omega,by first | rfl | go_num,rfl,rfl⟩
    · omega
  · have hcz : ¬ (i:Int)<(n:Int):=(by omega);obtain rfl:i=n:=(by omega);go_wp2;obtain ⟨wo,hwo⟩ : ∃ wo:World,wo=wr:=⟨_,rfl⟩;subst hwo;go_loopg [0,2,5] 1000 (fun gg s0 s2 s5 wq => ∃ (m c:Nat) (a':Option Addr) (r:List Int) (ah:Int) (out:List StpD),gg=1000-(i-m)∧m≤i∧m≤c∧s0 = .slice a' m c∧s5 = .int .i64 ah∧out.length≤i-m∧Hid (IntsIn wq a' m r)∧Hid (0<m → ∀ b off,a'=some ⟨b,off,none⟩→b<wo.heap.size)∧Hid (∀ x∈r,0≤x∧x≤15)∧Hid (ofS i l (-1)=out++ofS m r ah) ∧
     Hid (Row wq 351 3 s2 out.length (ji out))∧Hid (∀ k,s2.ownBlock=some k→wo.heap.size≤k)∧Hid (Upd [] wo wq))
    case atStart=>exact ⟨i,cap,a,l,-1,[],by omega,by omega,hnc,rfl,rfl,by simp,HI,Hi (fun h b off e=>by
     obtain ⟨b',off',e',c,_⟩:=HI.out.cell 0 (by rw [HLN.out]; exact h);rw [e] at e';cases e';exact World.block_lt_of_cell? wo _ c),HBD,Hi rfl,Hi (Row.nil _ _ _),Hi (by simp [Value.ownBlock]),Hi (Upd.refl _ _)⟩
    case round =>
     obtain ⟨m,c,a',r,ah,out,rfl,hmi,hmc,rfl,rfl,hol,HIr,HLT,HBr,HE,HR,HO,HU⟩:=hrel;rcases Nat.eq_zero_or_pos m with hm0 | hm0
     · subst hm0;have hr0:r=[]:=List.eq_nil_of_length_eq_zero HIr.out.len;subst hr0;have HE2:Hid (ofS i l (-1)=out):=Hi (by rw [HE.out,Ku,List.append_nil]);have hv:=HR.out.form;obtain ⟨va,vc,rfl⟩:=hv;go_wp2;go_ret;exact ⟨_,rfl,by rw [HE2.out]; exact HR.out,HO.out,HU.out⟩
     · have hmz:(0:Int)<(m:Int):=(by omega);have hrl:r.length=m:=HIr.out.len;have hrn:r≠[]:=fun e=>(by rw [e] at hrl; simp at hrl; omega);have hnl:=QL r ah hrn;have hh0:0≤r.headD 0:=by
        cases r with
        | nil=>exact absurd rfl hrn
        | cons x q=>exact (HBr.out x List.mem_cons_self).1
       have HNX:=Hi (zaO r ah a' m c wr HIr.out (by omega) (by omega) hh0);unfold zgo at HNX;obtain ⟨f,hf⟩ : ∃ f,m=f+1:=⟨m-1,by omega⟩;have HEx:Hid (ofS m r ah=(yo r ah).1::ofS f (r.drop (yo r ah).2) (r.getD ((yo r ah).2-1) 0)):=Hi (by rw [hf,jJ,if_neg hrn]);generalize yo r ah=p at *;obtain ⟨st,k⟩:=p;dsimp only at hnl HNX HEx;rw [hrl] at hnl;obtain ⟨hk1,hk2⟩:=hnl;have hrk:k-1<r.length:=(by omega);obtain ⟨b,off,rfl,hcl,_,_⟩:=HIr.out.cell (k-1) hrk;have HGD:Hid (r.getD (k-1) 0=r[k-1]):=Hi (by rw [List.getD_eq_getElem?_getD,List.getElem?_eq_getElem hrk]; rfl);generalize r[k-1]=ah2 at *;have hb2:=World.block_lt_of_cell? wr _ hcl;have HF1:=Hi hf;have HRN:=Hi hrn;have HCL:=Hi hcl;clear hrk hrl hf hrn hcl hb2 hh0;(go_wp2_with fail);refine HNX.out.mono ?_;rintro e w3 ⟨rfl,hU3⟩;have HR3:=Hi (HR.out.upd hU3 (by simp));have HU3:=Hi (HU.out.then hU3);have HI3:=Hi (HIr.out.pure hU3);obtain ⟨sy,sb,sm⟩:=st;simp only [StpD.cs] at *;obtain ⟨va,vc,rfl⟩:=HR.out.form;obtain ⟨on,hon⟩ : ∃ on,out.length=on:=⟨_,rfl⟩;have hT4:=Blk.new w3 [.int .i64 (sy:Nat),.int .i64 (sb:Nat),.int .i64 (sm:Nat)] 351;have hR4:=HR3.out.alloc (.cells #[.int .i64 (sy:Nat),.int .i64 (sb:Nat),.int .i64 (sm:Nat)] 351);have hI4:=HI3.out.pure ((Upd.refl [] w3).alloc (.cells #[.int .i64 (sy:Nat),.int .i64 (sb:Nat),.int .i64 (sm:Nat)] 351));have hU4:=HU3.out.alloc (.cells #[.int .i64 (sy:Nat),.int .i64 (sb:Nat),.int .i64 (sm:Nat)] 351);rw [hon] at hR4 hol HO ⊢;have HON:=Hi hon;clear hU3 HNX HR HU hon HR3 HI3 HU3;(go_upto_region 12 with fail);change Code.wp _ _ _ _ (w3.alloc (.cells #[.int .i64 (sy:Nat),.int .i64 (sb:Nat),.int .i64 (sm:Nat)] 351));generalize w3.alloc (.cells #[.int .i64 (sy:Nat),.int .i64 (sb:Nat),.int .i64 (sm:Nat)] 351)=w4 at *;generalize w3.heap.size=g at *;have tA:=hT4.all;have hRz:=hR4.alloc (.cells #[.int .i64 (sy:Nat),.int .i64 (sb:Nat),.int .i64 (sm:Nat)] 351);have HNW:Hid (∀ j u,([.int .i64 (sy:Nat),.int .i64 (sb:Nat),.int .i64 (sm:Nat)]:List Value)[j]? =some u→(w4.alloc (.cells #[.int .i64 (sy:Nat),.int .i64 (sb:Nat),.int .i64 (sm:Nat)] 351)).cell? ((⟨w4.heap.size,0,none⟩:Addr).add j)=some u):=Hi (zjK w4 ⟨sy,sb,sm⟩ _);have HST:Hid (∀ v∈([.int .i64 (sy:Nat),.int .i64 (sb:Nat),.int .i64 (sm:Nat)]:List Value),v.oneCell'=true):=Hi (ziG ⟨sy,sb,sm⟩);have HI4:=Hi hI4;have HU4:=Hi hU4;clear hI4 hU4 hT4 hR4;(go_wp2_with (at_builtin; refine zH _ rfl _ _ 311 rfl 351 i0 _ 3 24 Tryz.underlying311 hi hz0 hz1 hz2 rfl (by omega) (.slice va on vc) on _ rfl hRz ⟨w4.heap.size,0,none⟩ 1 1 [.int .i64 (sy:Nat),.int .i64 (sb:Nat),.int .i64 (sm:Nat)] rfl rfl HNW.out HST.out (by unfold maxLen; omega) (by omega) ?_));intro v5 w5 hR5 hU5 hT5;obtain ⟨va5,vc5,rfl⟩:=hR5.form;have hbw:=HLT.out hm0 b off rfl;have hI5:=HI4.out.upd (((Upd.refl [] w4).alloc (.cells #[.int .i64 (sy:Nat),.int .i64 (sb:Nat),.int .i64 (sm:Nat)] 351)).mono (fp':=(Value.slice va on vc).ownBlock.toList) (fun k hk=>by simp at hk) |>.then hU5) (fun b' off' e hm=>by
        cases e;have:=HO.out b (by simpa using hm);omega)
       have hU6:Upd [] wo w5:=(HU4.out.alloc _).trans hU5 (fun k hk => .inr (HO.out k (by simpa using hk)));have hO6 : ∀ k,(Value.slice va5 (on+1) vc5).ownBlock=some k→wo.heap.size≤k:=fun k hk=>by
        rcases hT5 with h | ⟨g',h1,h2⟩
        · exact HO.out k (by rw [← h]; exact hk)
        · rw [hk] at h1; cases h1; have:=HU4.out.size; simp at h2; omega
       have hck2:w5.cell? ⟨b,off+(k-1),none⟩=some (.int .i64 ah2):=by
        have hlt:k-1<r.length:=(by rw [HIr.out.len]; omega);obtain ⟨b',off',e7,h7,_,_⟩:=hI5.cell (k-1) hlt;cases e7;have hg:=HGD.out;rw [List.getD_eq_getElem?_getD,List.getElem?_eq_getElem hlt] at hg;simp only [Option.getD_some] at hg;rw [hg] at h7;exact h7
       have HE9:Hid (ofS i l (-1)=(out++[⟨sy,sb,sm⟩])++ofS (m-k) (r.drop k) ah2):=Hi (by
        rw [HE.out,HEx.out,HGD.out,List.append_assoc];have hd:(r.drop k).length=m-k:=(by rw [List.length_drop,HIr.out.len]);rw [Yv f _ _ (by rw [hd]; have:=HF1.out; omega),hd];rfl)
       have HB9:Hid (∀ x∈r.drop k,0≤x∧x≤15):=Hi (fun x hx=>HBr.out x (List.mem_of_mem_drop hx));have HI9:=Hi (fun (a9:Option Addr) (h:m-k=0∨a9=some ⟨b,off+k,none⟩)=>show ∀ n,IntsIn (w5.drewN n) a9 (m-k) (r.drop k) from fun n=>by
        rcases h with h | rfl
        · exact ⟨by rw [List.length_drop,HIr.out.len],fun j hj=>by rw [List.length_drop,HIr.out.len] at hj; omega⟩
        · exact (hI5.drop k hk2).pure ((Upd.refl [] w5).drewN n))
       have HR9:Hid (∀ n,Row (w5.drewN n) 351 3 (.slice va5 (on+1) vc5) (out++[(⟨sy,sb,sm⟩:StpD)]).length (ji (out++[⟨sy,sb,sm⟩]))):=Hi (fun n=>by
        have e1:(out++[(⟨sy,sb,sm⟩:StpD)]).length=on+1:=(by rw [List.length_append,HON.out]; rfl);have e2:ji (out++[(⟨sy,sb,sm⟩:StpD)])=ji out++[.int .i64 (sy:Nat),.int .i64 (sb:Nat),.int .i64 (sm:Nat)]:=(by unfold ji; rw [List.flatMap_append]; rfl);rw [e1,e2];exact hR5.drewN n)
       have HO9:=Hi hO6;have HU9:=Hi hU6;have HL9:Hid ((out++[(⟨sy,sb,sm⟩:StpD)]).length=on+1):=Hi (by rw [List.length_append,HON.out]; rfl);have hwk:IntKind.i64.wrap ((k:Int)-1)=((k-1:Nat):Int):=(by rw [IntWalk.i64_in _ (by omega)]; omega);have hb1:((k-1:Nat):Int)<(m:Int):=(by omega);have hb2:(k:Int)≤(m:Int):=(by omega);have hb3:(0:Int)≤(k:Int):=(by omega);have hb4:(m:Int)≤(c:Int):=(by omega);have hb5:(0:Int)≤((k-1:Nat):Int):=(by omega);clear hI5 hU6 hO6 hR5 hU5 hT5 hRz HNW HST tA hbw;rcases Nat.lt_or_ge k c with hkc | hkc
       · have hcz9 : ¬ c-k=0:=(by omega);go_wp2
         go_quiet (fail)
         go_wp2;go_roundg (1000-(i-(m-k)))
         · exact ⟨m-k,c-k,_,r.drop k,ah2,out++[⟨sy,sb,sm⟩],rfl,by omega,by omega,rfl,rfl,by rw [HL9.out]; omega,Hi (HI9.out _ (.inr rfl) nq),Hi (fun h b' off' e=>by first | (cases e; exact HLT.out hm0 b off rfl) | omega),HB9,HE9,Hi (HR9.out nq),HO9,Hi (HU9.out.drewN nq)⟩
         · omega
       · have hmk:m=k:=(by omega);have hcz9:c-k=0:=(by omega);have HMK:Hid (m-k=0):=Hi (by omega);clear hmk;go_wp2
         go_quiet (fail)
         go_wp2;go_roundg (1000-(i-(m-k)))
         · exact ⟨m-k,0,_,r.drop k,ah2,out++[⟨sy,sb,sm⟩],rfl,by omega,by have:=HMK.out; omega,rfl,rfl,by rw [HL9.out]; omega,Hi (HI9.out _ (.inl HMK.out) nq),Hi (fun h b' off' e=>by first | (cases e; exact HLT.out hm0 b off rfl) | omega),HB9,HE9,Hi (HR9.out nq),HO9,Hi (HU9.out.drewN nq)⟩
         · omega
structure StpIn (w:World) (a:Option Addr) (len:Nat) (l:List StpD):Prop where
 len:l.length=len
 cell : ∀ i (h:i<l.length),∃ b off,a=some ⟨b,off,none⟩∧(w.cell? ⟨b,off+i*3,none⟩=some (.int .i64 (l[i].sym:Nat))∧w.cell? ⟨b,off+i*3+1,none⟩=some (.int .i64 (l[i].bits:Nat))∧w.cell? ⟨b,off+i*3+2,none⟩=some (.int .i64 (l[i].more:Nat)))
theorem StpIn.pure {w w':World} {a:Option Addr} {len:Nat} {l:List StpD} (h:StpIn w a len l) (hU:Upd [] w w'):StpIn w' a len l :=
 ⟨h.len,fun i hi=>by
  obtain ⟨b,off,e,c1,c2,c3⟩:=h.cell i hi;have hb:b<w.heap.size:=World.block_lt_of_cell? w _ c1;exact ⟨b,off,e,(hU.at hb (by simp) _).trans c1,(hU.at hb (by simp) _).trans c2,(hU.at hb (by simp) _).trans c3⟩⟩
theorem vq : ∀ (l:List StpD) (i:Nat) (h:i<l.length) (j:Nat),j<3→(ji l)[i*3+j]? =l[i].cs[j]?
 | [],i,h,j,_=>absurd h (by simp)
 | s::l,0,h,j,hj=>by
   rw [Nat.zero_mul,Nat.zero_add];unfold ji;rw [List.flatMap_cons,List.getElem?_append_left (by simp [StpD.cs]; omega)];rfl
 | s::l,i+1,h,j,hj=>by
   have ih:=vq l i (by simpa using h) j hj;unfold ji at *;rw [List.flatMap_cons,List.getElem?_append_right (by simp [StpD.cs]; omega)];rw [show (i+1)*3+j-s.cs.length=i*3+j by simp [StpD.cs]; omega,ih];rfl
theorem StpIn.row {w:World} {a:Option Addr} {n c:Nat} {l:List StpD} {T:TypeId} (h:Row w T 3 (.slice a n c) n (ji l)) (hl:l.length=n):StpIn w a n l :=
 ⟨hl,fun i hi=>by
  obtain ⟨g,cc,e,_,_⟩:=h.form' (by omega);cases e;refine ⟨g,0,rfl,?_,?_,?_⟩
  · rw [Nat.zero_add]; exact h.cell (i*3) (by have:=vq l i hi 0 (by omega); rw [Nat.add_zero] at this; rw [this]; rfl)
  · rw [Nat.zero_add]; exact h.cell (i*3+1) (by rw [vq l i hi 1 (by omega)]; rfl)
  · rw [Nat.zero_add]; exact h.cell (i*3+2) (by rw [vq l i hi 2 (by omega)]; rfl)⟩
def Va (c:List Nat) (s:StpD):List Nat:=if s.sym≤18 then qK c s.sym else c
def zL (l:List StpD):List Nat:=l.foldl Va (List.replicate 19 0)
theorem Jf (l:List StpD) (s:StpD):zL (l++[s])=Va (zL l) s:=by unfold zL; rw [List.foldl_append]; rfl
theorem zhB (c:List Nat) (s:StpD):(Va c s).length=c.length:=by unfold Va; split; exact Zm _ _; rfl
theorem qQ (l:List StpD) : ∀ i,i≤l.length→(zL (l.take i)).length=19 ∧ ∀ x∈zL (l.take i),x≤i
 | 0,_=>⟨List.length_replicate,fun x hx=>by have:=List.eq_of_mem_replicate (show x∈List.replicate 19 0 from hx); omega⟩
 | i+1,h=>by
   obtain ⟨h1,h2⟩:=qQ l i (by omega);rw [List.take_succ_eq_append_getElem (show i<l.length by omega),Jf];refine ⟨by rw [zhB,h1],?_⟩;unfold Va;split
   · exact Yc _ _ _ h2
   · intro x hx; have:=h2 x hx; omega
theorem zjU:(Tryz.prog.info? 347).map (·.size)=some 19:=by kernel_rfl
def zkM (l:List StpD) (w:World) (e:Ending) (w':World):Prop:=e = .returned (.agg (zl (zL l)).toArray)∧Upd [] w w'
theorem KN (l:List StpD) (a:Option Addr) (n cap:Nat) (w:World) (hI:StpIn w a n l) (hn:n≤100000) :
 Calls Tryz.prog 300 #[.slice a n cap] w fun e w'=>zkM l w e w':=by
 have HI:=Hi hI;have HLN:=Hi hI.len;have HCO:=Hi (qQ l);clear hI;have HB0:Hid (Blk (w.alloc (.cells (zl (zL (l.take 0))).toArray 347)) w.heap.size (zl (zL (l.take 0))) 347):=Hi (Blk.new w _ _);have HU0:Hid (Upd [] w (w.alloc (.cells (zl (zL (l.take 0))).toArray 347))):=Hi ((Upd.refl [] w).alloc _);go_enter Tryz.func300,Tryz.ntmps300;go_upto_region 1 with fail
 change Code.wp _ _ _ _ (w.alloc (.cells (zl (zL (l.take 0))).toArray 347));generalize w.alloc (.cells (zl (zL (l.take 0))).toArray 347)=w1 at *;generalize hg:w.heap.size=g at *;have HG:=Hi hg;clear hg;go_wp2;go_loopg [7] 200000 (fun gg s7 wr => ∃ i:Nat,i≤n∧gg=200000-i∧s7 = .int .i64 (i:Nat)∧Hid (Blk wr g (zl (zL (l.take i))) 347)∧Hid (Upd [] w wr))
 case atStart=>exact ⟨0,by omega,by omega,rfl,HB0,HU0⟩
 case round =>
  obtain ⟨i,hin,rfl,rfl,HB,HU⟩:=hrel;by_cases hc:i<n
  · have hcz:(i:Int)<(n:Int):=(by omega);have hil:i<l.length:=(by rw [HLN.out]; exact hc);have hw1:IntKind.i64.wrap ((i:Int)+1)=((i+1:Nat):Int):=(by rw [IntWalk.i64_in _ (by omega)]; rfl);obtain ⟨b,off,rfl,hc1,hc2,hc3⟩:=(HI.out.pure HU.out).cell i hil;have HST:Hid (zL (l.take (i+1))=Va (zL (l.take i)) l[i]):=Hi (by rw [List.take_succ_eq_append_getElem hil,Jf]);obtain ⟨hlc,hbc⟩:=HCO.out i (by omega);generalize l[i]=s at *;generalize zL (l.take i)=c at *;obtain ⟨sy,sb,sm⟩:=s;dsimp only at hc1 hc2 hc3;have hT4:=Blk.new wr [.int .i64 (sy:Nat),.int .i64 (sb:Nat),.int .i64 (sm:Nat)] 351;have hB4:=HB.out.alloc (.cells #[.int .i64 (sy:Nat),.int .i64 (sb:Nat),.int .i64 (sm:Nat)] 351);have hU4:=HU.out.alloc (.cells #[.int .i64 (sy:Nat),.int .i64 (sb:Nat),.int .i64 (sm:Nat)] 351);clear hil HB HU;(go_upto_region 4 with fail);change Code.wp _ _ _ _ (wr.alloc (.cells #[.int .i64 (sy:Nat),.int .i64 (sb:Nat),.int .i64 (sm:Nat)] 351));generalize wr.alloc (.cells #[.int .i64 (sy:Nat),.int .i64 (sb:Nat),.int .i64 (sm:Nat)] 351)=w4 at *;generalize wr.heap.size=q at *;have t0:=hT4.cell 0 rfl;have HB4:=Hi hB4;have HU4:=Hi hU4;clear hT4 hB4 hU4 hc1 hc2 hc3;by_cases h18:sy≤18
    · have h18z:(sy:Int)≤18:=(by omega);have hgt:c[sy]? =some (c.getD sy 0):=(by rw [List.getD_eq_getElem?_getD,List.getElem?_eq_getElem (by omega)]; rfl);have hle:c.getD sy 0≤i:=hbc _ (List.mem_of_getElem? hgt);have ca:=HB4.out.cell sy (zB c sy _ hgt);have fa:=HB4.out.frz sy;have HAd:Hid (Va c ⟨sy,sb,sm⟩=c.set sy (c.getD sy 0+1)):=Hi (by unfold Va; rw [if_pos h18]; rfl);generalize c.getD sy 0=y at *;have hwy:IntKind.i64.wrap ((y:Int)+1)=((y+1:Nat):Int):=(by rw [IntWalk.i64_in _ (by omega)]; rfl);have h19:(sy:Int)<19:=(by omega);have HB5:Hid (Blk (w4.setCell ⟨g,sy,none⟩ (.int .i64 ((y+1:Nat):Int))) g (zl (zL (l.take (i+1)))) 347):=Hi (by
       rw [HST.out,HAd.out,xL];exact HB4.out.set sy _)
      have HU5:=Hi (HU4.out.setCell (p:=⟨g,sy,none⟩) (.inr (by have:=HG.out; show w.heap.size≤g; omega)) (.int .i64 ((y+1:Nat):Int)));clear hgt hlc hbc HB4 HU4;go_wp2;go_roundg (200000-(i+1))
      · exact ⟨i+1,by omega,by first | rfl | omega,by first | rfl | go_num,HB5,HU5⟩
      · omega
    · have h18z : ¬ (sy:Int)≤18:=(by omega);have HB5:Hid (Blk w4 g (zl (zL (l.take (i+1)))) 347):=Hi (by
       rw [HST.out,Va,if_neg h18];exact HB4.out)
      clear hlc hbc HB4;go_wp2;go_roundg (200000-(i+1))
      · exact ⟨i+1,by omega,by first | rfl | omega,by first | rfl | go_num,HB5,HU4⟩
      · omega
  · have hcz : ¬ (i:Int)<(n:Int):=(by omega);obtain rfl:i=n:=(by omega);have hl19:=(HCO.out i (by rw [HLN.out]; exact Nat.le_refl _)).1;have htk:l.take i=l:=List.take_of_length_le (by rw [HLN.out]; exact Nat.le_refl _);rw [htk] at HB hl19;clear htk;have hB:=HB.out;have HL19:Hid ((zl (zL l)).length=19):=Hi (by rw [zq,hl19]);clear HB hl19;go_wp2_with (first
     | (refine zx rfl 347 _ rfl g rfl 347 _ hB _ Tryz.underlying347 rfl (by rw [HL19.out]; kernel_rfl) ?_)
     | (refine zv rfl 347 _ _ rfl g rfl _ rfl 347 _ hB (by rw [HL19.out]; kernel_rfl) rfl (xi _) ?_; intro w2 hB3 hU2))
    exact bodyPost_ret (results_cell_row rfl _ _ _ _ _ _ _ rfl hB3 Tryz.underlying347 rfl (by rw [zjU]; simp [HL19.out])) rfl ⟨rfl,HU.out.trans hU2 (fun k hk=>by simp at hk; right; have:=HG.out; omega)⟩
def kp:List Nat:=[16,17,18,0,8,7,9,6,10,5,11,4,12,3,13,2,14,1,15]
theorem Vy (w:World):Calls Tryz.prog 303 #[] w fun e w' => ∃ g,e = .returned (.slice (some ⟨g,0,none⟩) 19 19)∧Blk w' g (zl kp) 3∧Upd [] w w':=by
 go_enter Tryz.func303,Tryz.ntmps303;go_wp2;go_ret;exact ⟨_,rfl,Blk.new w (zl kp) _,(Upd.refl [] w).alloc _⟩
theorem zin : ∀ i:Fin 19,kp.getD i.val 0<19∧kp[i.val]? =some (kp.getD i.val 0):=by decide +kernel
structure ToldO (l:List Nat) (t:Nat):Prop where
 lo:4≤t
 hi:t≤19
 zero : ∀ i,t≤i→i<19→l.getD (kp.getD i 0) 0=0
 last:t=4∨l.getD (kp.getD (t-1) 0) 0≠0
theorem ToldO.uniq {l:List Nat} {s t:Nat} (h:ToldO l s) (k:ToldO l t):s=t:=by
 rcases Nat.lt_trichotomy s t with h1 | h1 | h1
 · rcases k.last with h2 | h2
   · have:=h.lo; omega
   · exact absurd (h.zero (t-1) (by omega) (by have:=k.hi; omega)) h2
 · exact h1
 · rcases h.last with h2 | h2
   · have:=k.lo; omega
   · exact absurd (k.zero (s-1) (by omega) (by have:=h.hi; omega)) h2
def zkm (l:List Nat) (w:World) (e:Ending) (w':World):Prop := ∃ t:Nat,e = .returned (.int .i64 (t:Nat))∧ToldO l t∧Upd [] w w'
theorem IntsIn.natAt {w:World} {a:Option Addr} {n:Nat} {l:List Nat} (h:IntsIn w a n (ints l)) (j:Nat) (hj:j<l.length) : ∃ b off,a=some ⟨b,off,none⟩∧w.cell? ⟨b,off+j,none⟩=some (.int .i64 (l.getD j 0:Nat)):=by
 obtain ⟨b,off,e,c,_⟩:=h.cell j (by simpa [ints] using hj);refine ⟨b,off,e,?_⟩;rw [c];simp [ints,List.getD_eq_getElem?_getD,hj]
theorem zha (l:List Nat) (a1 a2 a3 a4:Option Addr) (n1 n2 n3 c1 c2 c3 c4:Nat) (w:World) (hI:IntsIn w a4 19 (ints l)) :
 Calls Tryz.prog 302 #[.agg #[.slice a1 n1 c1,.slice a2 n2 c2,.slice a3 n3 c3,.slice a4 19 c4]] w fun e w'=>zkm l w e w':=by
 have hB:=Blk.new w [.slice a1 n1 c1,.slice a2 n2 c2,.slice a3 n3 c3,.slice a4 19 c4] 313;have HU1:=Hi ((Upd.refl [] w).alloc (.cells #[.slice a1 n1 c1,.slice a2 n2 c2,.slice a3 n3 c3,.slice a4 19 c4] 313));have HI1:=Hi (hI.pure HU1.out);have HLN:=Hi hI.len;have HB:=Hi hB;clear hI hB;go_enter Tryz.func302,Tryz.ntmps302;go_upto_region 1 with fail
 change Code.wp _ _ _ _ (w.alloc (.cells #[.slice a1 n1 c1,.slice a2 n2 c2,.slice a3 n3 c3,.slice a4 19 c4] 313));generalize w.alloc (.cells #[.slice a1 n1 c1,.slice a2 n2 c2,.slice a3 n3 c3,.slice a4 19 c4] 313)=w1 at *;generalize w.heap.size=bx at *;have c3':=HB.out.cell 3 rfl;have HC3:=Hi c3';go_wp2;clear c3';go_loopg [3] 200 (fun gg s3 wr => ∃ m:Nat,4≤m∧m≤19∧gg=200-(19-m)∧s3 = .int .i64 (m:Nat)∧Hid (∀ i,m≤i→i<19→l.getD (kp.getD i 0) 0=0)∧Hid (Upd [] w1 wr))
 case atStart=>exact ⟨19,by omega,by omega,by omega,rfl,Hi (fun i h1 h2=>by omega),Hi (Upd.refl _ _)⟩
 case round =>
  obtain ⟨m,hm4,hm19,rfl,rfl,HZ,HU⟩:=hrel;have q3:=HU.out.keep HC3.out;by_cases hc:4<m
  · have hcz:(4:Int)<(m:Int):=(by omega);obtain ⟨k,hk⟩ : ∃ k,m=k+1:=⟨m-1,by omega⟩;obtain ⟨hj,hjo⟩:=zin ⟨k,by omega⟩;dsimp only at hj hjo;have hjl:kp.getD k 0<l.length:=(by have:=HLN.out; simp [ints] at this; omega);obtain ⟨b,off,rfl,hcx⟩:=(HI1.out.pure HU.out).natAt _ hjl;have HX:Hid (l.getD (kp.getD k 0) 0=l.getD (kp.getD k 0) 0):=Hi rfl;have HK:=Hi (zB kp k _ hjo);have HKM:=Hi hk;have hkm:k<m:=(by omega);have hmk:m≤k+1:=(by omega);have hwk:IntKind.i64.wrap ((m:Int)-1)=(k:Int):=(by rw [IntWalk.i64_in _ (by omega)]; omega);have hkz:(k:Int)<19:=(by omega);obtain ⟨x,hx⟩ : ∃ x,l.getD (kp.getD k 0) 0=x:=⟨_,rfl⟩;rw [hx] at hcx;obtain ⟨j,hjj⟩ : ∃ j,kp.getD k 0=j:=⟨_,rfl⟩;rw [hjj] at hcx HK hj;have hjz:(j:Int)<19:=(by omega);have HXE:=Hi hx;clear hk hjl hx hjj hjo hj;have hkp:=hmk;by_cases h0:x=0
    · have HX0:Hid (l.getD (kp.getD k 0) 0=0):=Hi (by rw [HXE.out]; exact h0);have hxz:(x:Int)=0:=(by omega);have hxb:((x:Int)==0)=true:=(by simpa using hxz);go_wp2;refine wp_region_held_drew (S:=fun w'=>HC [] wr [(⟨bx,3,none⟩,.slice (some ⟨b,off,none⟩) 19 c4)] w') (by kernel_rfl) (HC.of (fp:=[]) (W:=wr) (fs:=[(⟨bx,3,none⟩,.slice (some ⟨b,off,none⟩) 19 c4)]) ⟨q3,trivial⟩).drew (fun hHeld=>hdN ?_);refine hdT 0 (some 7) ?_; refine hdT 1 (some 8) ?_ (hy:=by intro w hSw; clear hSw; go_simp; try with_reducible rfl) (v := .bool true);refine hdT 2 (some 9) ?_; refine hdT 3 (some 10) ?_;refine hdT 4 (some 11) ?_ (hy:=by intro w hSw; have q0:=hSw.cells.1; dsimp only at q0; clear hSw; go_simp; try with_reducible rfl);refine hdT 6 (some 13) ?_; refine hdT 7 (some 14) ?_ (hy:=by intro w hSw; clear hSw; go_simp; try with_reducible rfl) (v := .int .i64 (k:Nat));refine hdO 5 (fun K hK=>?_);go_simp;refine (Vy _).mono ?_;rintro e z ⟨g,rfl,hB,hU⟩;go_wp2;refine hK.out _ _ (HC.then hHeld hU) (fun hHeld=>hdN ?_);clear hK K;have co:=hB.cell k HK.out;have cl:=hHeld.upd.keep hcx;have k3:=hHeld.cells.1;dsimp only at k3;refine JO (S':=fun w'=>HC [] z [(⟨bx,3,none⟩,.slice (some ⟨b,off,none⟩) 19 c4),(⟨g,k,none⟩,.int .i64 (j:Nat)),(⟨b,off+j,none⟩,.int .i64 (x:Nat))] w') (fun w' h=>hHeld.more (by simp) h) _ _ _ _ ?_;have HHz:=Hi hHeld;clear hHeld;have hHeld:HC [] z [(⟨bx,3,none⟩,.slice (some ⟨b,off,none⟩) 19 c4),(⟨g,k,none⟩,.int .i64 (j:Nat)),(⟨b,off+j,none⟩,.int .i64 (x:Nat))] z:=HC.of ⟨k3,co,cl,trivial⟩;refine hdT 8 (some 15) ?_;refine hdT 9 (some 16) ?_ (hy:=by intro w hSw; have q0:=hSw.cells.2.1; dsimp only at q0; clear hSw; go_simp; try with_reducible rfl);refine hdT 10 (some 17) ?_;refine hdT 11 (some 18) ?_ (hy:=by intro w hSw; have q0:=hSw.cells.2.2.1; dsimp only at q0; clear hSw; go_simp; try with_reducible rfl);refine hdT 12 (some 19) ?_ (hy:=by intro w hSw; clear hSw; go_simp; try with_reducible rfl) (v := .bool true); refine hdT 13 (some 20) ?_;refine wpAnyH_done (by kernel_rfl) ?_ 0;have HUz:=Hi (HU.out.then (HHz.out.upd.then hHeld.upd));clear hHeld;go_wp2;go_roundg (200-(19-k))
      · exact ⟨k,by omega,by omega,by omega,by first | rfl | go_num,Hi (fun i h1 h2=>by
         rcases Nat.eq_or_lt_of_le h1 with rfl | h3
         · exact HX0.out
         · exact HZ.out i (by omega) h2),Hi HUz.out⟩
      · omega
    · have HX0:Hid (l.getD (kp.getD (m-1) 0) 0≠0):=Hi (by rw [show m-1=k by omega,HXE.out]; exact h0);have hxz : ¬ (x:Int)=0:=(by omega);have hxb:((x:Int)==0)=false:=(by simpa using hxz);go_wp2;refine wp_region_held_drew (S:=fun w'=>HC [] wr [(⟨bx,3,none⟩,.slice (some ⟨b,off,none⟩) 19 c4)] w') (by kernel_rfl) (HC.of (fp:=[]) (W:=wr) (fs:=[(⟨bx,3,none⟩,.slice (some ⟨b,off,none⟩) 19 c4)]) ⟨q3,trivial⟩).drew (fun hHeld=>hdN ?_);refine hdT 0 (some 7) ?_; refine hdT 1 (some 8) ?_ (hy:=by intro w hSw; clear hSw; go_simp; try with_reducible rfl) (v := .bool true);refine hdT 2 (some 9) ?_; refine hdT 3 (some 10) ?_;refine hdT 4 (some 11) ?_ (hy:=by intro w hSw; have q0:=hSw.cells.1; dsimp only at q0; clear hSw; go_simp; try with_reducible rfl);refine hdT 6 (some 13) ?_; refine hdT 7 (some 14) ?_ (hy:=by intro w hSw; clear hSw; go_simp; try with_reducible rfl) (v := .int .i64 (k:Nat));refine hdO 5 (fun K hK=>?_);go_simp;refine (Vy _).mono ?_;rintro e z ⟨g,rfl,hB,hU⟩;go_wp2;refine hK.out _ _ (HC.then hHeld hU) (fun hHeld=>hdN ?_);clear hK K;have co:=hB.cell k HK.out;have cl:=hHeld.upd.keep hcx;have k3:=hHeld.cells.1;dsimp only at k3;refine JO (S':=fun w'=>HC [] z [(⟨bx,3,none⟩,.slice (some ⟨b,off,none⟩) 19 c4),(⟨g,k,none⟩,.int .i64 (j:Nat)),(⟨b,off+j,none⟩,.int .i64 (x:Nat))] w') (fun w' h=>hHeld.more (by simp) h) _ _ _ _ ?_;have HHz:=Hi hHeld;clear hHeld;have hHeld:HC [] z [(⟨bx,3,none⟩,.slice (some ⟨b,off,none⟩) 19 c4),(⟨g,k,none⟩,.int .i64 (j:Nat)),(⟨b,off+j,none⟩,.int .i64 (x:Nat))] z:=HC.of ⟨k3,co,cl,trivial⟩;refine hdT 8 (some 15) ?_;refine hdT 9 (some 16) ?_ (hy:=by intro w hSw; have q0:=hSw.cells.2.1; dsimp only at q0; clear hSw; go_simp; try with_reducible rfl);refine hdT 10 (some 17) ?_;refine hdT 11 (some 18) ?_ (hy:=by intro w hSw; have q0:=hSw.cells.2.2.1; dsimp only at q0; clear hSw; go_simp; try with_reducible rfl);refine hdT 12 (some 19) ?_ (hy:=by intro w hSw; clear hSw; go_simp; try with_reducible rfl) (v := .bool false); refine hdT 13 (some 20) ?_;refine wpAnyH_done (by kernel_rfl) ?_ 0;have HUz:=Hi (HU.out.then (HHz.out.upd.then hHeld.upd));clear hHeld;go_wp2;go_ret;exact ⟨_,rfl,⟨by omega,by omega,HZ.out,.inr HX0.out⟩,HU1.out.then HUz.out⟩
  · have hcz : ¬ (4:Int)<(m:Int):=(by omega);go_wp2;refine wp_region_held_drew (S:=fun w'=>HC [] wr [] w') (by kernel_rfl) (HC.of (fp:=[]) (W:=wr) (fs:=[]) trivial).drew (fun hHeld=>hdN ?_);refine hdT 0 (some 7) ?_; refine hdT 1 (some 8) ?_ (hy:=by intro w hSw; clear hSw; go_simp; try with_reducible rfl) (v := .bool false);refine hdT 2 (some 9) ?_; refine hdK 3 (some 10) ?_; refine hdK 4 (some 11) ?_; refine hdK 5 (some 12) ?_; refine hdK 6 (some 13) ?_;refine hdK 7 (some 14) ?_; refine hdK 8 (some 15) ?_; refine hdK 9 (some 16) ?_; refine hdK 10 (some 17) ?_; refine hdK 11 (some 18) ?_;refine hdK 12 (some 19) ?_; refine hdT 13 (some 20) ?_;refine wpAnyH_done (by kernel_rfl) ?_ 0;go_wp2;go_ret;exact ⟨_,rfl,⟨by omega,by omega,HZ.out,.inl (by omega)⟩,(HU1.out.then HU.out).drew⟩
def szT (lens:List Nat) (l:List StpD):Nat:=(l.map fun s=>lens.getD s.sym 0+s.bits).sum
theorem zf8 (lens:List Nat) (l:List StpD) (s:StpD):szT lens (l++[s])=szT lens l+(lens.getD s.sym 0+s.bits):=by unfold szT; simp
theorem zbX (lens:List Nat) (hl : ∀ j,lens.getD j 0≤15) : ∀ (l:List StpD),(∀ s∈l,s.bits≤7)→szT lens l≤22*l.length
 | [],_=>by simp [szT]
 | s::l,h=>by
   have ih:=zbX lens hl l (fun x hx=>h x (List.mem_cons_of_mem _ hx));have h1:=hl s.sym;have h2:=h s List.mem_cons_self;unfold szT at *;rw [List.map_cons,List.sum_cons,List.length_cons];omega
def zkl (lens:List Nat) (l:List StpD) (w:World) (e:Ending) (w':World):Prop := ∃ t:Nat,e = .returned (.int .i64 ((14+3*t+szT lens l:Nat):Int))∧ToldO lens t∧Upd [] w w'
theorem zhO (lens:List Nat) (l:List StpD) (a1 a2 a3 a4:Option Addr) (n1 n2 n3 c1 c2 c3 c4:Nat) (w:World) (hI:IntsIn w a4 19 (ints lens)) (hS:StpIn w a3 n3 l) (hn:n3≤100000) (hl : ∀ j,lens.getD j 0≤15) (hs : ∀ s∈l,s.sym<19∧s.bits≤7) :
 Calls Tryz.prog 264 #[.agg #[.slice a1 n1 c1,.slice a2 n2 c2,.slice a3 n3 c3,.slice a4 19 c4]] w fun e w'=>zkl lens l w e w':=by
 have hB:=Blk.new w [.slice a1 n1 c1,.slice a2 n2 c2,.slice a3 n3 c3,.slice a4 19 c4] 313;have HU1:=Hi ((Upd.refl [] w).alloc (.cells #[.slice a1 n1 c1,.slice a2 n2 c2,.slice a3 n3 c3,.slice a4 19 c4] 313));have HI1:=Hi (hI.pure HU1.out);have HS1:=Hi (hS.pure HU1.out);have HLN:=Hi hI.len;have HLS:=Hi hS.len;have HSY:=Hi hs;have HL15:=Hi hl;have HZB:=Hi (fun i=>zbX lens hl (l.take i) (fun s h=>(hs s (List.mem_of_mem_take h)).2));have HB:=Hi hB;have HBC:=Hi (hB.cell 0 rfl);clear hI hB hS hl hs;go_enter Tryz.func264,Tryz.ntmps264;go_upto_region 1 with fail
 change Code.wp _ _ _ _ (w.alloc (.cells #[.slice a1 n1 c1,.slice a2 n2 c2,.slice a3 n3 c3,.slice a4 19 c4] 313));generalize w.alloc (.cells #[.slice a1 n1 c1,.slice a2 n2 c2,.slice a3 n3 c3,.slice a4 19 c4] 313)=w1 at *;generalize w.heap.size=bx at *;have q0:=HB.out.cell 0 rfl;have q1:=HB.out.cell 1 rfl;have q2:=HB.out.cell 2 rfl;have q3:=HB.out.cell 3 rfl;have HC2:=Hi q2;have HC3:=Hi q3;have HTO:=Hi (zha lens a1 a2 a3 a4 n1 n2 n3 c1 c2 c3 c4 w1 HI1.out);go_wp2_with fail
 refine HTO.out.mono ?_;rintro e w2 ⟨t,rfl,ht,hU2⟩;have ht4:=ht.lo;have ht19:=ht.hi;have HT:=Hi ht;have HU2:=Hi hU2;have q2':=hU2.keep HC2.out;have hw3:IntKind.i64.wrap (3*(t:Int))=3*(t:Int):=IntWalk.i64_in _ (by omega);have hw14:IntKind.i64.wrap (14+3*(t:Int))=14+3*(t:Int):=IntWalk.i64_in _ (by omega);clear q0 q1 q2 q3 ht hU2 HTO HBC;go_wp2;clear hw3 hw14 q2';go_loopg [3,13] 200000 (fun gg s3 s13 wr => ∃ i:Nat,i≤n3∧gg=200000-i∧s13 = .int .i64 (i:Nat)∧s3 = .int .i64 ((14+3*t+szT lens (l.take i):Nat):Int)∧Hid (Upd [] w2 wr))
 case atStart=>exact ⟨0,by omega,by omega,rfl,by first | rfl | (rw [List.take_zero,show szT lens []=0 from rfl]; first | rfl | go_num),Hi (Upd.refl _ _)⟩
 case round =>
  obtain ⟨i,hin,rfl,rfl,rfl,HU⟩:=hrel;have hzb:szT lens (l.take i)≤22*i:=Nat.le_trans (HZB.out i) (Nat.mul_le_mul_left _ (List.length_take_le _ _));by_cases hc:i<n3
  · have hcz:(i:Int)<(n3:Int):=(by omega);have hil:i<l.length:=(by rw [HLS.out]; exact hc);have hw1:IntKind.i64.wrap ((i:Int)+1)=((i+1:Nat):Int):=(by rw [IntWalk.i64_in _ (by omega)]; rfl);obtain ⟨b,off,rfl,hc1,hc2,hc3⟩:=(HS1.out.pure (HU2.out.then HU.out)).cell i hil;have HST:Hid (szT lens (l.take (i+1))=szT lens (l.take i)+(lens.getD l[i].sym 0+l[i].bits)):=Hi (by rw [List.take_succ_eq_append_getElem hil,zf8]);obtain ⟨hy19,hb7⟩:=HSY.out l[i] (List.getElem_mem hil);generalize l[i]=s at *;obtain ⟨sy,sb,sm⟩:=s;dsimp only at hc1 hc2 hc3 hy19 hb7 HST;have hjl:sy<lens.length:=(by have:=HLN.out; simp [ints] at this; omega);obtain ⟨b4,off4,rfl,hcx⟩:=((HI1.out.pure HU2.out).pure HU.out).natAt sy hjl;have hx15:=HL15.out sy;generalize lens.getD sy 0=x at *;have hT4:=Blk.new wr [.int .i64 (sy:Nat),.int .i64 (sb:Nat),.int .i64 (sm:Nat)] 351;have hU4:=(Upd.refl [] wr).alloc (.cells #[.int .i64 (sy:Nat),.int .i64 (sb:Nat),.int .i64 (sm:Nat)] 351);have hcy:=hU4.keep hcx;have k3:=hU4.keep (HU.out.keep (HU2.out.keep HC3.out));have HU4:=Hi (HU.out.then hU4);generalize szT lens (l.take i)=S at *;clear hil hjl hU4;obtain ⟨R,hR⟩ : ∃ R,14+3*t+S=R:=⟨_,rfl⟩;obtain ⟨X,hX⟩ : ∃ X,x+sb=X:=⟨_,rfl⟩;obtain ⟨Y,hY⟩ : ∃ Y,14+3*t+(S+X)=Y:=⟨_,rfl⟩;have hwa:IntKind.i64.wrap ((x:Int)+(sb:Int))=(X:Int):=(by rw [IntWalk.i64_in _ (by omega)]; omega);have hwb:IntKind.i64.wrap ((R:Int)+(X:Int))=(Y:Int):=(by rw [IntWalk.i64_in _ (by omega)]; omega);rw [hR];have HY:Hid (14+3*t+szT lens (l.take (i+1))=Y):=Hi (by rw [HST.out,hX,hY]);have hsyz:(sy:Int)<19:=(by omega);clear hY hR hX hzb hx15 hb7;(go_upto_region 5 with fail);change Code.wp _ _ _ _ (wr.alloc (.cells #[.int .i64 (sy:Nat),.int .i64 (sb:Nat),.int .i64 (sm:Nat)] 351));generalize wr.alloc (.cells #[.int .i64 (sy:Nat),.int .i64 (sb:Nat),.int .i64 (sm:Nat)] 351)=w4 at *;generalize wr.heap.size=q at *;have t0:=hT4.cell 0 rfl;have t1:=hT4.cell 1 rfl;clear hT4 hc1 hc2 hc3 hcx
    go_quiet (fail)
    go_wp2;go_roundg (200000-(i+1))
    · exact ⟨i+1,by omega,by omega,by first | rfl | go_num,by rw [HY.out],Hi (HU4.out.drewN _)⟩
    · omega
  · have hcz : ¬ (i:Int)<(n3:Int):=(by omega);obtain rfl:i=n3:=(by omega);have htk:l.take i=l:=List.take_of_length_le (by rw [HLS.out]; exact Nat.le_refl _);rw [htk] at hzb ⊢;go_wp2;go_ret;exact ⟨t,rfl,HT.out,HU1.out.then (HU2.out.then HU.out)⟩
end Go.Proofs.YtfkenhihcmmgkaaGreatDoor
