/- swingleref08.Of: its walk. -/
import Derived.Test.YtfkenhihcmmgkaaGreatDoorRSyms
set_option linter.unusedVariables false
set_option linter.unusedSimpArgs false
set_option linter.unusedSectionVars false
set_option maxRecDepth 100000
set_option maxHeartbeats 12800000
namespace Go.Proofs.YtfkenhihcmmgkaaGreatDoor
open Go.RowKit
def zdb (i:Nat):Nat:=if 256≤i∧i<280 then 7 else if 144≤i∧i<256 then 9 else 8
def Qb (i:Nat):List Nat:=(List.range i).map zdb
theorem zcW (i:Nat):Qb (i+1)=Qb i++[zdb i]:=by simp [Qb,List.range_succ]
theorem VU (i:Nat):(Qb i).length=i:=by simp [Qb]
theorem zfC:Qb 288=yG 4:=by decide +kernel
def GrowRel (w0 w:World) (v:Value) (L:List Nat):Prop:=Row w 3 1 v L.length (zl L)∧Upd [] w0 w ∧ ∀ k,v.ownBlock=some k→w0.heap.size≤k
theorem GrowRel.push {w0 wr w9:World} {v v9:Value} {L:List Nat} {X:Nat} (h:GrowRel w0 wr v L) (o:Obj) (hR:Row w9 3 1 v9 (L.length+1) (zl L++[.int .i64 (X:Nat)])) (hU:Upd v.ownBlock.toList (wr.alloc o) w9) (hT:Later (wr.alloc o) v v9):GrowRel w0 w9 v9 (L++[X]):=by
 refine ⟨?_,(h.2.1.alloc o).trans hU (fun k hk => .inr (h.2.2 k (by simpa using hk))),?_⟩
 · rw [List.length_append]; simpa [zl] using hR
 · intro k hk;rcases hT with h1 | ⟨g,h1,h2⟩
   · rw [h1] at hk; exact h.2.2 k hk
   · rw [h1] at hk; cases hk;rw [World.size_alloc] at h2;have:=h.2.1.size;omega
theorem zb2 (w:World):Calls Tryz.prog 115 #[] w fun e w' => ∃ a1 c1 a2 c2,e = .returned (.tuple #[.slice a1 288 c1,.slice a2 32 c2])∧IntsIn w' a1 288 Qd∧IntsIn w' a2 32 Ze∧Upd [] w w'∧(∀ b off,a1=some ⟨b,off,none⟩→w.heap.size≤b)∧(∀ b off,a2=some ⟨b,off,none⟩→w.heap.size≤b):=by
 obtain ⟨i0,hi0,hz0,hz1,hz2⟩:=info_parts qh;go_enter Tryz.func115,Tryz.ntmps115;go_wp2;go_loopg [2,4,5] 288 (fun g s2 s4 s5 wr => ∃ i,i≤288∧g=288-i∧s4 = .int .i64 (i:Nat)∧GrowRel w wr s2 (Qb i))
 case atStart=>exact ⟨0,by omega,rfl,rfl,Row.nil _ _ _,.refl _ _,by simp [Value.ownBlock]⟩
 case round =>
  obtain ⟨i,hi,rfl,rfl,hG⟩:=hrel;by_cases hc:i<288
  · have hcz:(i:Int)<288:=(by omega);have hlen:=VU i;have hst:=Hi (zcW i);obtain ⟨x,hx⟩ : ∃ x,x=zdb i:=⟨_,rfl⟩;rw [← hx] at hst;have hL:(Qb i).length≤288:=(by omega);clear hlen;generalize Qb i=L at *;obtain ⟨va,vc,rfl⟩:=hG.1.form;have hrow:=hG.1;have HX:=Hi hx;clear hx;by_cases h1:256≤i
    · have t1:(256:Int)≤(i:Int):=(by omega);have t2:(144:Int)≤(i:Int):=(by omega);have t3 : ¬ (i:Int)<256:=(by omega);by_cases h2:i<280
      · have t4:(i:Int)<280:=(by omega);have hx7:x=7:=(by rw [HX.out]; unfold zdb; rw [if_pos ⟨h1,h2⟩]);subst hx7;(go_wp2_with (at_builtin; refine zH _ rfl _ _ 57 rfl 3 i0 _ 1 8 Tryz.underlying57 hi0 hz0 hz1 hz2 rfl (by omega) _ L.length _ rfl (hrow.alloc _) ⟨wr.heap.size,0,none⟩ 1 1 [_] rfl rfl (World.news_of_block (cs := #[_]) (t:=3) (fr:=(0,0)) (heap_alloc_new _ _)) (by simp [Value.oneCell']) (by unfold maxLen; omega) (by omega) ?_));intro v9 w9 hR9 hU9 hT9;have hP:=hG.push (Obj.cells #[.int .i64 ((7:Nat):Int)] 3) hR9 hU9 hT9;go_wp2;go_roundg (288-(i+1))
        · exact ⟨i+1,by omega,rfl,by first | rfl | go_num,by rw [hst.out]; exact hP⟩
        · omega
      · have t4 : ¬ (i:Int)<280:=(by omega);have hx7:x=8:=(by rw [HX.out]; unfold zdb; rw [if_neg (by omega),if_neg (by omega)]);subst hx7;(go_wp2_with (at_builtin; refine zH _ rfl _ _ 57 rfl 3 i0 _ 1 8 Tryz.underlying57 hi0 hz0 hz1 hz2 rfl (by omega) _ L.length _ rfl (hrow.alloc _) ⟨wr.heap.size,0,none⟩ 1 1 [_] rfl rfl (World.news_of_block (cs := #[_]) (t:=3) (fr:=(0,0)) (heap_alloc_new _ _)) (by simp [Value.oneCell']) (by unfold maxLen; omega) (by omega) ?_));intro v9 w9 hR9 hU9 hT9;have hP:=hG.push (Obj.cells #[.int .i64 ((8:Nat):Int)] 3) hR9 hU9 hT9;go_wp2;go_roundg (288-(i+1))
        · exact ⟨i+1,by omega,rfl,by first | rfl | go_num,by rw [hst.out]; exact hP⟩
        · omega
    · have t1 : ¬ (256:Int)≤(i:Int):=(by omega);have t3:(i:Int)<256:=(by omega);by_cases h2:144≤i
      · have t2:(144:Int)≤(i:Int):=(by omega);have hx7:x=9:=(by rw [HX.out]; unfold zdb; rw [if_neg (by omega),if_pos (by omega)]);subst hx7;(go_wp2_with (at_builtin; refine zH _ rfl _ _ 57 rfl 3 i0 _ 1 8 Tryz.underlying57 hi0 hz0 hz1 hz2 rfl (by omega) _ L.length _ rfl (hrow.alloc _) ⟨wr.heap.size,0,none⟩ 1 1 [_] rfl rfl (World.news_of_block (cs := #[_]) (t:=3) (fr:=(0,0)) (heap_alloc_new _ _)) (by simp [Value.oneCell']) (by unfold maxLen; omega) (by omega) ?_));intro v9 w9 hR9 hU9 hT9;have hP:=hG.push (Obj.cells #[.int .i64 ((9:Nat):Int)] 3) hR9 hU9 hT9;go_wp2;go_roundg (288-(i+1))
        · exact ⟨i+1,by omega,rfl,by first | rfl | go_num,by rw [hst.out]; exact hP⟩
        · omega
      · have t2 : ¬ (144:Int)≤(i:Int):=(by omega);have hx7:x=8:=(by rw [HX.out]; unfold zdb; rw [if_neg (by omega),if_neg (by omega)]);subst hx7;(go_wp2_with (at_builtin; refine zH _ rfl _ _ 57 rfl 3 i0 _ 1 8 Tryz.underlying57 hi0 hz0 hz1 hz2 rfl (by omega) _ L.length _ rfl (hrow.alloc _) ⟨wr.heap.size,0,none⟩ 1 1 [_] rfl rfl (World.news_of_block (cs := #[_]) (t:=3) (fr:=(0,0)) (heap_alloc_new _ _)) (by simp [Value.oneCell']) (by unfold maxLen; omega) (by omega) ?_));intro v9 w9 hR9 hU9 hT9;have hP:=hG.push (Obj.cells #[.int .i64 ((8:Nat):Int)] 3) hR9 hU9 hT9;go_wp2;go_roundg (288-(i+1))
        · exact ⟨i+1,by omega,rfl,by first | rfl | go_num,by rw [hst.out]; exact hP⟩
        · omega
  · have hcz : ¬ (i:Int)<288:=(by omega);have hi288:i=288:=(by omega);subst hi288;have hlen:=VU 288;have hG1:=hG.1;rw [hlen] at hG1;rw [zfC] at hG1;obtain ⟨g1,c1,rfl,hg1,hg2⟩:=hG1.form' (by omega);have hnew1:=hG.2.2 g1 rfl;have hUw:=hG.2.1;have HG:=Hi hG1;clear hG hlen hG1;go_wp2;go_loopg [3,6] 32 (fun g s3 s6 wx => ∃ j,j≤32∧g=32-j∧s6 = .int .i64 (j:Nat)∧GrowRel wr wx s3 (List.replicate j 5))
    case atStart=>exact ⟨0,by omega,rfl,rfl,Row.nil _ _ _,.refl _ _,by simp [Value.ownBlock]⟩
    case round =>
     obtain ⟨j,hj,rfl,rfl,hS⟩:=hrel;by_cases hc2:j<32
     · have hcz2:(j:Int)<32:=(by omega);have hst:=Hi (show List.replicate (j+1) 5=List.replicate j 5++[5] from List.replicate_succ');have hL:(List.replicate j 5).length≤32:=(by simp; omega);generalize List.replicate j 5=L at *;obtain ⟨va,vc,rfl⟩:=hS.1.form;have hrow:=hS.1;(go_wp2_with (at_builtin; refine zH _ rfl _ _ 57 rfl 3 i0 _ 1 8 Tryz.underlying57 hi0 hz0 hz1 hz2 rfl (by omega) _ L.length _ rfl (hrow.alloc _) ⟨wr.heap.size,0,none⟩ 1 1 [_] rfl rfl (World.news_of_block (cs := #[_]) (t:=3) (fr:=(0,0)) (heap_alloc_new _ _)) (by simp [Value.oneCell']) (by unfold maxLen; omega) (by omega) ?_));intro v9 w9 hR9 hU9 hT9;have hP:=hS.push (Obj.cells #[.int .i64 ((5:Nat):Int)] 3) hR9 hU9 hT9;go_wp2;go_roundg (32-(j+1))
       · exact ⟨j+1,by omega,rfl,by first | rfl | go_num,by rw [hst.out]; exact hP⟩
       · omega
     · have hcz2 : ¬ (j:Int)<32:=(by omega);have hj32:j=32:=(by omega);subst hj32;have hS1:=hS.1;rw [List.length_replicate] at hS1;obtain ⟨g2,c2,rfl,_,_⟩:=hS1.form' (by omega);have hUx:=hS.2.1;have hnew2:=hS.2.2 g2 rfl;have hszw:=hUw.size;have HNEW:Hid ((∀ b off,(some ⟨g1,0,none⟩:Option Addr)=some ⟨b,off,none⟩→w.heap.size≤b)∧(∀ b off,(some ⟨g2,0,none⟩:Option Addr)=some ⟨b,off,none⟩→w.heap.size≤b)):=Hi ⟨fun b off e=>by cases e; exact hnew1,fun b off e=>by cases e; omega⟩;go_wp2;go_returns;have hR1:=HG.out.upd hUx (by simp);refine ⟨_,_,_,⟨_,rfl⟩,?_,?_,hUw.then hUx,HNEW.out⟩
       · have h:=IntsIn.of_row hR1 (fun x hx=>Nat.le_trans (zdw x hx) (by omega));have e:=qB.1;unfold Qd ints at e ⊢;rw [e] at h;exact h
       · have h:=IntsIn.of_row hS1 (fun x hx=>by rw [(List.mem_replicate.1 hx).2]; omega);have e:=qB.2;unfold Ze ints at e ⊢;rw [e] at h;exact h
theorem zdt : ∀ n:List Nat,16384*n.countP (fun k=>decide (k=1))≤yF n
 | []=>by simp
 | x::l=>by
   have:=zdt l;unfold yF at this ⊢;rw [List.map_cons,List.sum_cons,List.countP_cons];by_cases h:x=1
   · subst h;have:wt 1=16384:=rfl;simp;omega
   · simp [h]; omega
theorem zkS (x:Nat):wt x≤if 0<x then 16384 else 0:=by
 unfold wt;by_cases h:x=0
 · simp [h]
 · rw [if_neg h,if_pos (by omega)];exact Nat.le_trans (Nat.pow_le_pow_right (by omega) (show 15-x≤14 by omega)) (by omega)
theorem zgc : ∀ n:List Nat,yF n≤16384*n.countP (fun k=>decide (0<k))
 | []=>by simp [yF]
 | x::l=>by
   have:=zgc l;have hx:=zkS x;unfold yF at this ⊢;rw [List.map_cons,List.sum_cons,List.countP_cons];by_cases h:0<x
   · rw [if_pos h] at hx;simp [h];omega
   · rw [if_neg h] at hx;simp [h];omega
theorem Qs {A:List Nat} (h:yl (ints A)=true) (hl:A.length≤300) (h15 : ∀ x∈A,x≤15):zm (ints A)≠3∧zm (ints A)≠0:=by
 unfold yl at h;rw [Bool.or_eq_true,decide_eq_true_eq] at h;rcases h with h | h
 · omega
 · rw [Bool.and_eq_true,decide_eq_true_eq,decide_eq_true_eq] at h;obtain ⟨h1,h2⟩:=h;have hok:yM (ints A)=true:=kw (by rw [zr]; exact hl) (fun k hk=>by
    unfold ints at hk;obtain ⟨x,hx,rfl⟩:=List.mem_map.1 hk;have:=h15 x hx;omega)
   have e1:jr (ints A)=A.countP (fun k=>decide (0<k)):=by
    unfold jr ints;rw [List.countP_map]
    congr 1
    funext k;simp
   have e2:JJ (ints A)=A.countP (fun k=>decide (k=1)):=by
    unfold JJ ints;rw [List.countP_map]
    congr 1
    funext k;simp only [Function.comp];by_cases hk:k=1
    · simp [hk]
    · simp [hk];omega
   have g1:=zdt A;have g2:=zgc A;rw [← e2,h2] at g1;rw [← e1,h1] at g2;unfold zm;rw [if_pos hok,zcr];unfold jq;rw [if_neg (by omega),if_pos (by omega)];omega
theorem Kz {s:ByteArray} {a a':Nat} {A B:List Nat} (h:yY s a = .ok ((A,B),a')):zm (ints A)≠3∧zm (ints A)≠0∧zm (ints B)≠3:=by
 obtain ⟨_,hA,hB,h15⟩:=jE h;have key:yl (ints A)=true∧(zm (ints B)=0∨yl (ints B)=true):=by
  obtain ⟨⟨n,a1⟩,h1,h⟩:=yr h;obtain ⟨⟨m,a2⟩,h2,h⟩:=yr h;obtain ⟨⟨k,a3⟩,h3,h⟩:=yr h;unfold xB at h;split at h
  · obtain ⟨⟨L,a4⟩,h4,h⟩:=yr h;unfold qD at h;split at h
    · obtain ⟨⟨L',a5⟩,h5,h⟩:=yr h;unfold kj at h;split at h
      · rename_i hc;split at h
        · rename_i hd;cases h;exact ⟨hc.2,hd⟩
        · cases h
      · cases h
    · cases h
  · cases h
 have h1:=Qs key.1 (by omega) (fun x hx=>h15 x (by simp [hx]));refine ⟨h1.1,h1.2,?_⟩;rcases key.2 with h | h
 · omega
 · exact (Qs h (by omega) (fun x hx=>h15 x (by simp [hx]))).1
theorem zfz:zm Qd≠3∧zm Qd≠0∧zm Ze≠3:=by
 have h:zm Qd=1∧zm Ze=1:=by decide +kernel
 omega
theorem IntsIn.nil (w:World):IntsIn w none ([]:List Int).length []:=⟨rfl,fun i h=>by simp at h⟩
def Wp (s:ByteArray) (M g v:Nat) (q:List Nat×Nat):Except Nat (List Nat×Nat):=if v=1 then .ok q else qN s M (8*s.size+1) g q.1 q.2
theorem zau (s:ByteArray) (M g:Nat) (out:List Nat) (a:Nat):qN s M (8*s.size+1) (g+1) out a=zu s a 1 >>= fun r=>zu s r.2 2 >>= fun q=>qx s M (8*s.size+1) out q >>= Wp s M g r.1:=by
 unfold qN km;rw [yI]
 congr 1
 funext r;rw [yI,yI]
 congr 1
 funext q
 congr 1
 funext x;unfold JA Wp;by_cases h:r.1=1
 · rw [if_pos h,h]; rfl
 · have hb:(r.1==1)=false:=(by simp [h]);rw [if_neg h,hb]; rfl
def KindDone (K:Except Nat (List Nat×Nat)) (y:Nat) (out:List Nat) (a:Nat):Prop:=(y≠0∧K = .error y)∨(y=0∧K = .ok (out,a))
theorem KindDone.of {K:Except Nat (List Nat×Nat)} {y:Nat} {out:List Nat} {a:Nat} (h:Sp K y (.ok (out,a))):KindDone K y out a:=h
theorem zh3 (s:ByteArray) (most:Int) (w:World) (hs:s.size≤1099511627776) :
 Calls Tryz.prog 65 #[.string s,.int .i64 most] w fun e w'=>e = .returned (WF (ofP s most))∧Upd [] w w':=by
 have HS:=Hi (show ofP s most=qN s (Yx most) (8*s.size+1) (8*s.size+1) [] 0 by rfl);generalize ofP s most=TP at *;obtain ⟨M,hM⟩ : ∃ M,M=Yx most:=⟨_,rfl⟩;have hM65:M≤65000:=by rw [hM]; unfold Yx; omega
 have hMc:max 0 (min most 65000)=(M:Int):=by rw [hM]; unfold Yx; omega
 rw [← hM] at HS;clear hM;go_enter Tryz.func65,Tryz.ntmps65;go_upto_region 2 with fail
 obtain ⟨w2,hw2⟩ : ∃ w2,w2=(w.alloc (Obj.cells #[.string s,.int .i64 0,.bool false] 175)).alloc (Obj.cells #[.pointer (some ⟨w.heap.size,0,none⟩),.string ⟨#[]⟩,.int .i64 (M:Nat),.int .i64 0] 177):=⟨_,rfl⟩;have hX2:XAt w2 (w.heap.size+1) w.heap.size s 0 0 (zg []) M:=by
  have hr:=zgD w s 175;have hr2:=hr.upd ((Upd.refl [] _).alloc (Obj.cells #[.pointer (some ⟨w.heap.size,0,none⟩),.string ⟨#[]⟩,.int .i64 (M:Nat),.int .i64 0] 177)) (by simp);have hb:=Blk.new (w.alloc (Obj.cells #[.string s,.int .i64 0,.bool false] 175)) [.pointer (some ⟨w.heap.size,0,none⟩),.string ⟨#[]⟩,.int .i64 (M:Nat),.int .i64 0] 177;rw [World.size_alloc] at hb;rw [hw2];exact ⟨hb,by omega,⟨false,hr2,fun _=>rfl⟩,by omega⟩
 have hU2:Upd [] w w2:=by rw [hw2]; exact ((Upd.refl [] w).alloc _).alloc _
 change Code.wp _ _ _ _ ((w.alloc (Obj.cells #[.string s,.int .i64 0,.bool false] 175)).alloc (Obj.cells #[.pointer (some ⟨w.heap.size,0,none⟩),.string ⟨#[]⟩,.int .i64 (M:Nat),.int .i64 0] 177));rw [← hw2];clear hw2;have HU:Hid (Upd [] w w2 ∧ ∀ k∈[w.heap.size+1,w.heap.size],w.heap.size≤k):=Hi ⟨hU2,by simp⟩;clear hU2;obtain ⟨bx,hbx⟩ : ∃ bx,bx=w.heap.size+1:=⟨_,rfl⟩;obtain ⟨br,hbr⟩ : ∃ br,br=w.heap.size:=⟨_,rfl⟩;rw [← hbx,← hbr] at hX2 ⊢;rw [← hbx] at HU;have HU':Hid (∀ w',Upd [bx,br] w2 w'→Upd [] w w'):=Hi (fun w' h=>HU.out.1.trans h (fun k hk => .inr (by simp at hk; omega)));clear HU hbx hbr;go_wp2;go_loopg [8] (8*s.size+1) (fun gg s8 wr => ∃ g out a y v,gg=g∧s8 = .int .i64 (v:Nat)∧v<2∧XAt wr bx br s y a (zg out) M∧out.length≤M∧Upd [bx,br] w2 wr∧Hid (Sp TP y (if v=1 then .ok (out,a) else qN s M (8*s.size+1) g out a))∧Hid (y=0→8*s.size<g+a))
 case atStart=>exact ⟨8*s.size+1,[],0,0,0,rfl,rfl,by omega,hX2,by simp,.refl _ _,Hi (.inr ⟨rfl,by rw [HS.out]; rfl⟩),Hi (fun _=>by omega)⟩
 case round =>
  obtain ⟨g,out,a,y,v,hgg,rfl,hv,hX,hout,hU,H,HB⟩:=hrel;have c3:=hX.blk.cell 3 rfl;clear hX2;by_cases hy:y=0∧v=0
  · obtain ⟨rfl,rfl⟩:=hy;have hle:=hX.le;obtain ⟨g,rfl⟩ : ∃ g',g=g'+1:=⟨g-1,by have:=HB.out rfl; omega⟩;subst hgg;have hB:=HB.out rfl;have H1:=Hi (show Sp TP 0 (zu s a 1 >>= fun r=>zu s r.2 2 >>= fun q=>qx s M (8*s.size+1) out q >>= Wp s M g r.1) from by
     have h:=H.out; rw [if_neg (by omega),zau] at h; exact h)
    clear H HB hle;(go_wp2_with fail);refine (yx bx br 1 wr s 0 a (zg out) M hX hs (by omega)).mono ?_;rintro e w3 ⟨v1,y1,a1,rfl,hv1,h3,hU3,ht3⟩;have H2:=Hi (H1.out.take ht3);have hv1':v1<2:=hv1;have hta:Hid (y1=0→a1=a+1):=Hi (fun h=>by
     rcases ht3 with ⟨h1,_⟩ | ⟨_,h1,_⟩ | ⟨_,_,_,h1,_⟩
     · omega
     · exact Qk h1
     · omega)
    clear ht3 hv1 H1 hX;(go_wp2_with fail);refine (yx bx br 2 w3 s y1 a1 (zg out) M h3 hs (by omega)).mono ?_;rintro e w4 ⟨v2,y2,a2,rfl,hv2,h4,hU4,ht4⟩;have H3:=Hi (show Sp TP y2 (qx s M (8*s.size+1) out (v2,a2) >>= Wp s M g v1) from H2.out.take ht4);have hv2':v2<4:=hv2;have hta2:Hid (y2=0→a2=a+3):=Hi (fun h=>by
     rcases ht4 with ⟨h1,_,h2,_⟩ | ⟨h1,h2,_⟩ | ⟨_,_,_,h1,_⟩
     · omega
     · have:=hta.out h1; have:=Qk h2; omega
     · omega)
    have c3:=h4.blk.cell 3 rfl;have f3:=h4.blk.frz 3;have hU5:=(hU.then hU3).then hU4;clear ht4 hv2 H2 h3 hU hU3 hU4 hta;by_cases hy2:y2=0
    · subst hy2;have hat:=hta2.out rfl;have fin : ∀ y' out' a',Sp (qx s M (8*s.size+1) out (v2,a2)) y' (.ok (out',a'))→Hid (Sp TP y' (if v1=1 then .ok (out',a') else qN s M (8*s.size+1) g out' a'))∧Hid (y'=0→8*s.size<g+a'):=fun y' out' a' h=>by
       rcases H3.out with ⟨h0,_⟩ | ⟨_,h0⟩
       · exact absurd rfl h0
       · rcases h with ⟨h1,h2⟩ | ⟨h1,h2⟩
         · exact ⟨Hi (.inl ⟨h1,by rw [h0,h2]; rfl⟩),Hi (fun h=>absurd h h1)⟩
         · refine ⟨Hi (.inr ⟨h1,by rw [h0,h2]; rfl⟩),Hi (fun _=>?_)⟩;have:=Ka h2;omega
      have FIN:=Hi fin;clear fin hta2 hat hB H3;by_cases hk0:v2=0
      · subst hk0;have HK:=Hi (zbj (α:=List Nat×Nat) .ok (qx s M (8*s.size+1) out (0,a2)) bx br w4 s a2 out M h4 hs hM65 hout (.inr ⟨rfl,by unfold qx; rw [if_pos rfl]; cases jj s M out a2<;>rfl⟩));(go_wp2_with fail);refine HK.out.mono ?_;rintro e w6 ⟨y6,out6,a6,rfl,h6,hl6,hU6,hS6⟩;obtain ⟨hf1,hf2⟩:=FIN.out y6 out6 a6 hS6;clear hS6;go_wp2;go_roundg g
        · exact ⟨g,out6,a6,y6,v1,rfl,rfl,hv1',h6,hl6,hU5.then hU6,hf1,hf2⟩
        · omega
      · have t1:((v2:Int)==0)=false:=(by simp; omega);by_cases hk1:v2=1
        · subst hk1;have HK:=fun (w':World) p1 k1 p2 k2 (h':XAt w' bx br s 0 a2 (zg out) M) hI1 hI2 hn1 hn2=>kM (α:=List Nat×Nat) .ok (qx s M (8*s.size+1) out (1,a2)) bx br (8*s.size+1) p1 p2 k1 k2 Qd Ze w' s 0 a2 out M h' hs hM65 hout hI1 hI2 (by rw [qB.1]; omega) (by rw [qB.2]; omega) hn1 hn2 (fun _=>zfz) (fun _=>by omega) (.inr ⟨rfl,by unfold qx xr; rw [if_neg (by omega),if_pos rfl]; cases yT Qd Ze s M (8*s.size+1) out a2<;>rfl⟩);simp only [qB.1,qB.2] at HK;have HK:=Hi HK;(go_wp2_with fail);refine (zb2 w4).mono ?_;rintro e w5 ⟨p1,k1,p2,k2,rfl,hI1,hI2,hU45,hn1,hn2⟩;have hlx:=h4.blk.lt;have hlr:br<w4.heap.size:=(by obtain ⟨bad,hR,_⟩:=h4.rd; exact hR.1.lt);have h5:=h4.upd hU45 (by simp) (by simp);have HK5:=Hi (HK.out w5 p1 k1 p2 k2 h5 hI1 hI2 (fun b off e=>by have:=hn1 b off e; simp; omega) (fun b off e=>by have:=hn2 b off e; simp; omega));have hU55:=hU5.then (hU45.mono (fp':=[bx,br]) (by simp));clear hI1 hI2 hn1 hn2 HK h4 hU5 hU45 c3 f3;(go_wp2_with fail);refine HK5.out.mono ?_;rintro e w6 ⟨y6,out6,a6,rfl,h6,hl6,hU6,hS6⟩;obtain ⟨hf1,hf2⟩:=FIN.out y6 out6 a6 hS6;clear hS6;go_wp2;go_roundg g
          · exact ⟨g,out6,a6,y6,v1,rfl,rfl,hv1',h6,hl6,hU55.then hU6,hf1,hf2⟩
          · omega
        · have t2:((v2:Int)==1)=false:=(by simp; omega);by_cases hk2:v2=2
          · subst hk2;have HT:=Hi (zbm bx br w4 s a2 (zg out) M h4 hs);have hlx:=h4.blk.lt;have hlr:br<w4.heap.size:=(by obtain ⟨bad,hR,_⟩:=h4.rd; exact hR.1.lt);have hkp:qx s M (8*s.size+1) out (2,a2)=yY s a2 >>= KT s M (8*s.size+1) out:=(by unfold qx; rw [if_neg (by omega),if_neg (by omega),if_pos rfl]);have HKP:=Hi hkp;clear hkp;(go_wp2_with fail);refine HT.out.mono ?_;intro e w5 hp;cases hTab:yY s a2 with
            | error c =>
              rw [hTab] at hp;obtain ⟨hU45,rfl,a5,h5⟩:=hp;have hc:c≠0:=(by have:=zbK c hTab; omega);have HK:=kM (α:=List Nat×Nat) .ok (qx s M (8*s.size+1) out (2,a2)) bx br 0 none none 0 0 [] [] w5 s c a5 out M h5 hs hM65 hout (IntsIn.nil w5) (IntsIn.nil w5) (by simp) (by simp) (fun b off e=>by cases e) (fun b off e=>by cases e) (fun h=>absurd h hc) (fun h=>absurd h hc) (.inl ⟨hc,by rw [HKP.out,hTab]; rfl⟩);simp only [List.length_nil] at HK;have HK:=Hi HK;clear hTab HT;(go_wp2_with fail);refine HK.out.mono ?_;rintro e w6 ⟨y6,out6,a6,rfl,h6,hl6,hU6,hS6⟩;obtain ⟨hf1,hf2⟩:=FIN.out y6 out6 a6 hS6;clear hS6;go_wp2;go_roundg g
              · exact ⟨g,out6,a6,y6,v1,rfl,rfl,hv1',h6,hl6,(hU5.then hU45).then hU6,hf1,hf2⟩
              · omega
            | ok r =>
              obtain ⟨⟨A,B⟩,a5⟩:=r;rw [hTab] at hp;obtain ⟨hU45,p,cap,rfl,hI1,hI2,h5,hg⟩:=hp;obtain ⟨hadv,hA,hB,_⟩:=jE hTab;have hkk:=Kz hTab;have HK:=kM (α:=List Nat×Nat) .ok (qx s M (8*s.size+1) out (2,a2)) bx br (8*s.size+1) (some ⟨p,0,none⟩) (some ⟨p,A.length,none⟩) cap (cap-A.length) (ints A) (ints B) w5 s 0 a5 out M h5 hs hM65 hout (by rw [zr]; exact hI1) (by rw [zr]; exact hI2) (by rw [zr]; omega) (by rw [zr]; omega) (fun b off e=>by cases e; simp; omega) (fun b off e=>by cases e; simp; omega) (fun _=>hkk) (fun _=>by omega)
               (.inr ⟨rfl,by rw [HKP.out,hTab]; show yT (ints A) (ints B) s M (8*s.size+1) out a5=yT (ints A) (ints B) s M (8*s.size+1) out a5 >>= Except.ok; cases yT (ints A) (ints B) s M (8*s.size+1) out a5<;>rfl⟩)
              rw [zr,zr] at HK;have HK:=Hi HK;clear hTab hI1 hI2 hkk HT h4;(go_wp2_with fail);refine HK.out.mono ?_;rintro e w6 ⟨y6,out6,a6,rfl,h6,hl6,hU6,hS6⟩;obtain ⟨hf1,hf2⟩:=FIN.out y6 out6 a6 hS6;clear hS6;go_wp2;go_roundg g
              · exact ⟨g,out6,a6,y6,v1,rfl,rfl,hv1',h6,hl6,(hU5.then hU45).then hU6,hf1,hf2⟩
              · omega
          · have t3:((v2:Int)==2)=false:=(by simp; omega);go_wp2;go_roundg g
            · obtain ⟨hf1,hf2⟩:=FIN.out 2 out a2 (.inl ⟨by omega,by unfold qx; rw [if_neg hk0,if_neg hk1,if_neg hk2]⟩);exact ⟨g,out,a2,2,v1,rfl,rfl,hv1',h4.setWhy 2 (by omega),hout,hU5.setCell (.inl (by simp)) _,hf1,hf2⟩
            · omega
    · have t1:((y2:Int) != 0)=true:=(by simp; omega);have t2:(y2 != 0)=true:=(by simp; omega);have H4:=Hi (show TP = .error y2 from by
       rcases H3.out with ⟨_,h⟩ | ⟨h,_⟩
       · exact h
       · exact absurd h hy2)
      clear H3 hta2;go_wp2
      go_quiet (fail)
      go_wp2;go_returns;refine ⟨?_,(HU'.out _ hU5).drewN _⟩;rw [H4.out]; rfl
  · by_cases hy0:y=0
    · subst hy0;have hv1:v=1:=(by omega);subst hv1;have H2:=Hi (show TP = .ok (out,a) from by
       rcases H.out with ⟨h,_⟩ | ⟨_,h⟩
       · exact absurd rfl h
       · rw [h,if_pos rfl])
      obtain ⟨bad,hR,hb⟩:=hX.rd;have cA:=hX.blk.all;have d1:=hR.1.cell 1 rfl;have hle:=hX.le;have z1:IntKind.i64.wrap ((a:Int)+7)=(a:Int)+7:=IntWalk.i64_in _ (by omega);have z0:(0:Int)≤(a:Int)+7:=(by omega);obtain ⟨q,hq⟩ : ∃ q,q=(a+7)/8:=⟨_,rfl⟩;have hqb:q≤1099511627777:=(by omega);have z2:((a:Int)+7).tdiv 8=(q:Int):=(by rw [Int.tdiv_eq_ediv_of_nonneg (by omega)]; omega);have z3:((a:Int)+7)/8=(q:Int):=(by omega);have HQ:=Hi hq;clear hq;have hUw:=HU'.out _ hU;have HR:=Hi hR;clear hb hR H hy HS HB;go_wp2
      go_quiet (fail)
      go_wp2;go_returns;refine ⟨?_,hUw.drewN _⟩;have e:WF (.ok (out,a)) = .tuple #[.string (zg out),.int .i64 (q:Nat),.int .i64 0]:=(by rw [HQ.out]; rfl);rw [H2.out,e]; rfl
    · have t1:((y:Int)==0)=false:=(by simp; omega);have t2:(y==0)=false:=(by simp; omega);have t3:((y:Int) != 0)=true:=(by simp; omega);have t4:(y != 0)=true:=(by simp; omega);have H4:=Hi (show TP = .error y from by
       rcases H.out with ⟨_,h⟩ | ⟨h,_⟩
       · exact h
       · exact absurd h hy0)
      have hUw:=HU'.out _ hU;clear H hy HS HB;go_wp2
      go_quiet (fail)
      go_wp2;go_returns;refine ⟨?_,hUw.drewN _⟩;rw [H4.out]; rfl
end Go.Proofs.YtfkenhihcmmgkaaGreatDoor
