/- Package inflate: which lengths may be: plain, and the walks of Lengths, of the program and of the reference. -/
import Derived.Test.YtfkenhihcmmgkaaGreatDoorQAF
set_option linter.unusedVariables false
set_option linter.unusedSimpArgs false
set_option linter.unusedSectionVars false
set_option maxRecDepth 100000
set_option maxHeartbeats 12800000
namespace Go.Proofs.YtfkenhihcmmgkaaGreatDoor
open Go.RowKit
theorem ZK (x:Option Addr) (cap:Nat) (l:List Int) (w:World) (hlen:l.length≤100000) (hI:IntsIn w x l.length l) :
 Calls Tryz.prog 278 #[.slice x l.length cap] w fun e w'=>e = .returned (.bool (yl l))∧Upd [] w w':=by
 have HK:=Hi (kv x l.length cap l w (by omega) hI);have HI:=Hi hI;clear hI;by_cases h1:zm l=1
 · have hl:=Hi (show yl l=true by unfold yl; simp [h1]);rw [h1] at HK;clear h1;go_enter Tryz.func278,Tryz.ntmps278;go_wp2_with fail
   refine HK.out.mono ?_;rintro e w1 ⟨rfl,hU1⟩;go_wp2;go_returns;exact ⟨by rw [hl.out]; rfl,hU1⟩
 · have hl:=Hi (show yl l=(decide (jr l=1)&&decide (JJ l=1)) by unfold yl; simp [h1]);obtain ⟨kk,hkk⟩ : ∃ kk,zm l=kk:=⟨_,rfl⟩;rw [hkk] at HK h1;have hkf:((kk:Int)==1)=false:=(by simp; omega);clear hkk h1;go_enter Tryz.func278,Tryz.ntmps278;go_wp2_with fail
   refine HK.out.mono ?_;rintro e w1 ⟨rfl,hU1⟩;go_wp2;go_loopg [3,4,12] l.length (fun g s3 s4 s12 wr => ∃ i,i≤l.length∧g=l.length-i∧s12 = .int .i64 (i:Nat)∧s3 = .int .i64 (jr (l.take i):Nat)∧s4 = .int .i64 (JJ (l.take i):Nat)∧w1=wr)
   case atStart=>exact ⟨0,by omega,rfl,rfl,rfl,rfl,rfl⟩
   case round =>
    obtain ⟨i,hin,rfl,rfl,rfl,rfl,rfl⟩:=hrel;have hb1:=XY (l.take i);have hb2:=zig (l.take i);have hb3:(l.take i).length≤100000:=(by simp; omega);by_cases hc:i<l.length
    · have hcz:(i:Int)<(l.length:Int):=(by omega);obtain ⟨b,off,rfl,c0,_,_⟩:=(HI.out.pure hU1).cell i hc;have hu:=XC hc;have ho:=zeu hc;generalize jr (l.take i)=u at *;generalize JJ (l.take i)=o at *;generalize l[i]=y at *;by_cases h1:y=1
      · subst h1;rw [if_pos (by omega)] at hu;rw [if_pos rfl] at ho;have HU:=Hi hu;have HO:=Hi ho;clear hu ho;go_wp2;go_roundg (l.length-(i+1))
        case measure=>omega
        case rel=>exact ⟨i+1,by omega,rfl,by go_num,by rw [HU.out]; go_num,by rw [HO.out]; go_num,rfl⟩
      · have h1f:(y==1)=false:=(by simpa using h1);rw [if_neg h1] at ho;have HO:=Hi ho;clear ho;by_cases h0:0<y
        · rw [if_pos h0] at hu;have HU:=Hi hu;clear hu h1;go_wp2;go_roundg (l.length-(i+1))
          case measure=>omega
          case rel=>exact ⟨i+1,by omega,rfl,by go_num,by rw [HU.out]; go_num,by rw [HO.out]; go_num,rfl⟩
        · rw [if_neg h0] at hu;have HU:=Hi hu;clear hu h1;go_wp2;go_roundg (l.length-(i+1))
          case measure=>omega
          case rel=>exact ⟨i+1,by omega,rfl,by go_num,by rw [HU.out]; go_num,by rw [HO.out]; go_num,rfl⟩
    · have hcz : ¬ (i:Int)<(l.length:Int):=(by omega);have hi:i=l.length:=(by omega);rw [hi,List.take_length] at hb1 hb2 ⊢;have hcz2 : ¬ (l.length:Int)<(l.length:Int):=(by omega);clear hi hc hcz;generalize jr l=u at *;generalize JJ l=o at *;by_cases hu:u=1
      · subst hu;by_cases ho:o=1
        · subst ho;go_wp2;go_returns;exact ⟨by rw [hl.out]; rfl,hU1⟩
        · have hof:((o:Int)==1)=false:=(by simp; omega);go_wp2;go_returns;exact ⟨by rw [hl.out]; simp [ho],hU1⟩
      · have huf:((u:Int)==1)=false:=(by simp; omega);go_wp2;go_returns;exact ⟨by rw [hl.out]; simp [hu],hU1⟩
theorem Xu (w:World):Calls Tryz.prog 275 #[] w fun e w'=>e = .returned (.slice (some ⟨w.heap.size,0,none⟩) 19 19)∧w.alloc (.cells (zl [16,17,18,0,8,7,9,6,10,5,11,4,12,3,13,2,14,1,15]).toArray 3)=w':=by
 go_enter Tryz.func275,Tryz.ntmps275;go_wp2;go_returns;exact ⟨rfl,rfl⟩
def yv:List Nat:=[16,17,18,0,8,7,9,6,10,5,11,4,12,3,13,2,14,1,15]
def xt (s:ByteArray):Nat→Nat→List Nat→Nat→Except Nat (List Nat×Nat)
 | 0,_,L,a => .ok (L,a)
 | m+1,i,L,a =>
   match zu s a 3 with
   | .error c => .error c
   | .ok r=>xt s m (i+1) (L.set (yv.getD i 0) r.1) r.2
def kj (n:Nat) (r:List Nat×Nat):Except Nat ((List Nat×List Nat)×Nat) :=
 if 0<r.1.getD 256 0∧yl (ints (r.1.take n))=true then
  if zm (ints (r.1.drop n))=0∨yl (ints (r.1.drop n))=true then .ok ((r.1.take n,r.1.drop n),r.2) else .error 2
 else .error 2
def qD (s:ByteArray) (n m:Nat) (r:List Nat×Nat):Except Nat ((List Nat×List Nat)×Nat) :=
 if zm (ints r.1)=1 then (qq (ints r.1) s (n+m) (n+m) [] r.2) >>= kj n else .error 2
def xB (s:ByteArray) (n m k a:Nat):Except Nat ((List Nat×List Nat)×Nat) :=
 if n≤286∧m≤30 then (xt s k 0 (List.replicate 19 0) a) >>= qD s n m else .error 2
def yY (s:ByteArray) (a:Nat):Except Nat ((List Nat×List Nat)×Nat) :=
 zu s a 5 >>= fun r1=>zu s r1.2 5 >>= fun r2=>zu s r2.2 4 >>= fun r3=>xB s (257+r1.1) (1+r2.1) (4+r3.1) r3.2
def ziY (w:World) (b:Nat) (s:ByteArray) (r:Except Nat ((List Nat×List Nat)×Nat)) (e:Ending) (w':World):Prop :=
 match r with
 | .ok (AB,a') => ∃ g n cap,n=AB.1.length∧e = .returned (.tuple #[.slice (some ⟨g,0,none⟩) n cap,.slice (some ⟨g,n,none⟩) AB.2.length (cap-n)]) ∧
  Row w' 3 1 (.slice (some ⟨g,0,none⟩) (AB.1++AB.2).length cap) (AB.1++AB.2).length (zl (AB.1++AB.2))∧RdAt w' b 292 s a' false∧Upd [b] w w'∧w.heap.size≤g
 | .error c=>e = .panicked [{ v := .iface 29 (.int .i64 (c:Nat)),recovered:=false }]∧Upd [b] w w'
theorem XJ (i:Nat) (h:i<19):yv[i]? =some (yv.getD i 0):=by
 rw [List.getD,List.getElem?_eq_getElem h]; rfl
theorem Vn (i:Nat) (h:i<19):yv.getD i 0<19:=by
 have : ∀ i:Fin 19,yv.getD i.val 0<19:=by decide
 exact this ⟨i,h⟩
theorem zcr (L:List Nat):zj (ints L)=L:=by simp [zj,ints,Function.comp_def]
theorem zr (L:List Nat):(ints L).length=L.length:=by simp [ints]
theorem IntsIn.part {w:World} {g n cap:Nat} {L:List Nat} (h:Row w 3 1 (.slice (some ⟨g,0,none⟩) n cap) n (zl L)) (hb : ∀ x∈L,x≤1099511627776) (off len:Nat) (hl:off+len≤L.length) :
 IntsIn w (some ⟨g,off,none⟩) (ints ((L.drop off).take len)).length (ints ((L.drop off).take len)) :=
 ⟨rfl,fun i hi=>by
  have hi':i<len:=by simp [ints] at hi; omega
  have hLi:off+i<L.length:=by omega
  have he:(ints ((L.drop off).take len))[i]=((L[off+i]:Nat):Int):=by simp [ints]
  refine ⟨g,off,rfl,?_,?_⟩
  · rw [he,Row.cell h (off+i) (zB _ _ _ (List.getElem?_eq_getElem hLi))]
  · have:=hb _ (List.getElem_mem hLi);rw [he]; omega⟩
theorem zi3 {s:ByteArray} {k a n v a':Nat} {L:List Nat} (hL : ∀ x∈L,x≤15) (h:xV s k L a = .ok ((n,v),a')):1≤n∧v≤15:=by
 unfold xV at h;split at h
 · unfold xj at h;split at h
   · split at h
     · cases h
     · rename_i hL0;rcases zK s a 2 with ⟨t,_,_,ht⟩ | ht
       · rw [ht] at h; cases h;refine ⟨by omega,?_⟩;rw [List.getLastD_eq_getLast?,List.getLast?_eq_some_getLast hL0];exact hL _ (List.getLast_mem hL0)
       · rw [ht] at h; cases h
   · split at h
     · rcases zK s a 3 with ⟨t,_,_,ht⟩ | ht
       · rw [ht] at h; cases h; omega
       · rw [ht] at h; cases h
     · rcases zK s a 7 with ⟨t,_,_,ht⟩ | ht
       · rw [ht] at h; cases h; omega
       · rw [ht] at h; cases h
 · cases h; omega
theorem zdS {l:List Int} {s:ByteArray} {many:Nat} : ∀ (f:Nat) (L:List Nat) (a:Nat) (L':List Nat) (a':Nat),(∀ x∈L,x≤15)→L.length≤many→many≤f+L.length→qq l s many f L a = .ok (L',a')→L'.length=many ∧ ∀ x∈L',x≤15:=by
 intro f
 induction f with
 | zero =>
   intro L a L' a' h15 h1 h2 h;cases h;exact ⟨by omega,h15⟩
 | succ f ih =>
   intro L a L' a' h15 h1 h2 h;simp only [qq] at h;split at h
   · split at h
     · cases h
     · split at h
       · cases h
       · rename_i q hq;split at h
         · rename_i hle;obtain ⟨⟨n,v⟩,a2⟩:=q;have ho:=zi3 h15 hq;simp only at hle;refine ih _ _ _ _ ?_ ?_ ?_ h
           · intro x hx;rcases List.mem_append.1 hx with h | h
             · exact h15 x h
             · simp at h; omega
           · simp; omega
           · simp; omega
         · cases h
   · cases h;exact ⟨by omega,h15⟩
def WE (w6:World) (b fb:Nat) (s:ByteArray) (L:List Nat) (a:Nat) (wr:World):Prop :=
 Upd [b,fb] w6 wr∧RdAt wr b 292 s a false∧Row wr 3 1 (.slice (some ⟨fb,0,none⟩) 19 19) 19 (zl L)∧L.length=19 ∧ ∀ x∈L,x≤15
theorem Yi (b:Nat) (w:World) (s:ByteArray) (a:Nat) (hR:RdAt w b 292 s a false) (hs:s.size≤1099511627776) :
 Calls Tryz.prog 233 #[.agg #[.pointer (some ⟨b,0,none⟩)]] w (ziY w b s (yY s a)):=by
 have hblt:=hR.1.lt;have hU0:Upd [] w (w.alloc (.cells #[.pointer (some ⟨b,0,none⟩)] 236)):=(Upd.refl [] w).alloc _;have hP:=(Blk.new w [.pointer (some ⟨b,0,none⟩)] 236);have hR0:=hR.upd hU0 (by simp);have hU0b:Upd [b] w (w.alloc (.cells #[.pointer (some ⟨b,0,none⟩)] 236)):=hU0.mono (by simp);have hsz0:(w.alloc (.cells #[.pointer (some ⟨b,0,none⟩)] 236)).heap.size=w.heap.size+1:=by simp
 obtain ⟨i0,hi0,hz0,hz1,hz2⟩:=info_parts qh;have HS:=Hi (show yY s a=(zu s a 5 >>= fun r1=>zu s r1.2 5 >>= fun r2=>zu s r2.2 4 >>= fun r3=>xB s (257+r1.1) (1+r2.1) (4+r3.1) r3.2) by rfl);generalize hT:yY s a=TP at *;clear hT;go_enter Tryz.func233,Tryz.ntmps233;go_wp2;have hU0b':=Hi hU0b;have hb0:b<w.heap.size:=hblt;clear hR hU0 hU0b;generalize w.alloc (.cells #[.pointer (some ⟨b,0,none⟩)] 236)=w0 at *;have c0:=hP.cell 0 rfl;go_upto_region 1 with fail
 rcases zK s a 5 with ⟨t1,ht1,ha1,h1⟩ | h1
 · have HT1:=Hi (yW (hR0.upd (Upd.drew (Upd.refl [] _)) (by simp)) hs (by omega) h1);rcases zK s (a+5) 5 with ⟨t2,ht2,ha2,h2⟩ | h2
   · have hE:TP=(zu s (a+5+5) 4 >>= fun r3=>xB s (257+t1) (1+t2) (4+r3.1) r3.2):=by
      rw [HS.out,h1]; show (zu s (a+5) 5 >>= _)=_; rw [h2]; rfl
     have HE:=Hi hE;clear hE HS h1;have e1:IntKind.i64.wrap (257+(t1:Int))=257+(t1:Int):=IntWalk.i64_in _ (by omega);have e2:IntKind.i64.wrap (1+(t2:Int))=1+(t2:Int):=IntWalk.i64_in _ (by omega);refine wp_region_held_drew (S:=fun w'=>w'.cell? ⟨w.heap.size,0,none⟩=some (.pointer (some ⟨b,0,none⟩))) (by kernel_rfl) c0 (fun hHeld=>?_);refine wpAnyH_take (i:=0) (v:=?v0_1) rfl (by kernel_rfl) (by kernel_rfl) (by kernel_rfl) (fun _ _ _ h=>h) (Or.inl ⟨by rfl,?hy0_1⟩) (by assumption) ?r0_1
     case hy0_1=>(intro w hSw; (try dsimp only at hSw); go_simp; try with_reducible rfl)
     (try simp only [Act.put,List.setIfInBounds_toArray,List.set_cons_zero,List.set_cons_succ]);refine wpAnyH_take (i:=3) (v:=?v3_2) rfl (by kernel_rfl) (by kernel_rfl) (by kernel_rfl) (fun _ _ _ h=>h) (Or.inl ⟨by rfl,?hy3_2⟩) (by assumption) ?r3_2
     case hy3_2=>(intro w hSw; (try dsimp only at hSw); go_simp; try with_reducible rfl)
     (try simp only [Act.put,List.setIfInBounds_toArray,List.set_cons_zero,List.set_cons_succ]);refine wpAnyH_ready (rs:=[1]) (by kernel_rfl) (by simp) ?_;refine AllReadyH.cons rfl (fun K hK=>?_) AllReadyH.nil;go_simp
     go_at_call 229
     refine HT1.out.mono ?_;rintro e w1 ⟨rfl,hR1,hU1⟩;have c1:w1.cell? ⟨w.heap.size,0,none⟩=some (.pointer (some ⟨b,0,none⟩)):=((hP.drew).upd hU1 (by simp; omega)).cell 0 rfl;have HT2:=Hi (yW hR1 hs (by omega) h2);go_wp2;refine hK.out _ _ c1 (fun hHeld=>?_);clear hK K;(try simp only [Act.put,List.setIfInBounds_toArray,List.set_cons_zero,List.set_cons_succ]);refine wpAnyH_take (i:=2) (v:=?v2_3) rfl (by kernel_rfl) (by kernel_rfl) (by kernel_rfl) (fun _ _ _ h=>h) (Or.inl ⟨by rfl,?hy2_3⟩) (by assumption) ?r2_3
     case hy2_3=>(intro w hSw; (try dsimp only at hSw); go_simp; try with_reducible rfl)
     (try simp only [Act.put,List.setIfInBounds_toArray,List.set_cons_zero,List.set_cons_succ]);refine wpAnyH_ready (rs:=[4]) (by kernel_rfl) (by simp) ?_;refine AllReadyH.cons rfl (fun K hK=>?_) AllReadyH.nil;go_simp
     go_at_call 229
     refine HT2.out.mono ?_;rintro e w2 ⟨rfl,hR2,hU2⟩;have c2:w2.cell? ⟨w.heap.size,0,none⟩=some (.pointer (some ⟨b,0,none⟩)):=(((hP.drew).upd hU1 (by simp; omega)).upd hU2 (by simp; omega)).cell 0 rfl;go_wp2;refine hK.out _ _ c2 (fun hHeld=>?_);clear hK K;(try simp only [Act.put,List.setIfInBounds_toArray,List.set_cons_zero,List.set_cons_succ]);refine wpAnyH_take (i:=5) (v:=?v5_4) rfl (by kernel_rfl) (by kernel_rfl) (by kernel_rfl) (fun _ _ _ h=>h) (Or.inl ⟨by rfl,?hy5_4⟩) (by assumption) ?r5_4
     case hy5_4=>(intro w hSw; (try dsimp only at hSw); go_simp; try with_reducible rfl)
     (try simp only [Act.put,List.setIfInBounds_toArray,List.set_cons_zero,List.set_cons_succ]);refine wpAnyH_take (i:=6) (v:=?v6_5) rfl (by kernel_rfl) (by kernel_rfl) (by kernel_rfl) (fun _ _ _ h=>h) (Or.inl ⟨by rfl,?hy6_5⟩) (by assumption) ?r6_5
     case hy6_5=>(intro w hSw; (try dsimp only at hSw); go_simp; try with_reducible rfl)
     (try simp only [Act.put,List.setIfInBounds_toArray,List.set_cons_zero,List.set_cons_succ]);refine wpAnyH_take (i:=7) (v:=?v7_6) rfl (by kernel_rfl) (by kernel_rfl) (by kernel_rfl) (fun _ _ _ h=>h) (Or.inl ⟨by rfl,?hy7_6⟩) (by assumption) ?r7_6
     case hy7_6=>(intro w hSw; (try dsimp only at hSw); go_simp; try with_reducible rfl)
     (try simp only [Act.put,List.setIfInBounds_toArray,List.set_cons_zero,List.set_cons_succ]);refine wpAnyH_done (by kernel_rfl) ?_ _;have hP2:=((hP.drew).upd hU1 (by simp; omega)).upd hU2 (by simp; omega);have hU2:Upd [b] w w2:=hU0b'.out.drew.then (hU1.then hU2);clear hHeld HT1 HT2 hR1 hU1 c1 hP hU0b' hR0;have hw2:=hU2.size;rcases zK s (a+5+5) 4 with ⟨t3,ht3,ha3,h3⟩ | h3
     · have hE:TP=xB s (257+t1) (1+t2) (4+t3) (a+5+5+4):=(by rw [HE.out,h3]; rfl);have HE:=Hi hE;have HT3:=Hi (yW hR2 hs (by omega) h3);clear hE h3 h2;(go_wp2_with fail);refine HT3.out.mono ?_;rintro e w3 ⟨rfl,hR3,hU3⟩;have hP3:=hP2.upd hU3 (by simp; omega);have c3:=hP3.cell 0 rfl;have hU3w:=hU2.then hU3;clear HT3 hR2 hU3 hP2 c2;by_cases hfit:257+t1≤286∧1+t2≤30
       · have hf1:decide ((257:Int)+(t1:Int)≤286)=true:=decide_eq_true (by omega);have hf2:decide ((1:Int)+(t2:Int)≤30)=true:=decide_eq_true (by omega);have hE:=HE.out;unfold xB at hE;rw [if_pos hfit] at hE;have HE:=Hi hE;clear hE;(go_wp2_with fail);refine (yB _).mono ?_;rintro e w4 ⟨rfl,rfl⟩;(go_wp2_with fail);refine (Xu _).mono ?_;rintro e w4 ⟨rfl,rfl⟩;(go_wp2_with (refine kz _ rfl _ _ 57 rfl 3 i0 _ Tryz.underlying57 hi0 hz0 hz1 rfl .i64 .i64 _ _ 19 rfl rfl rfl rfl (by rw [hz2]; omega) (by unfold maxLen; omega) ?_; intro w5 hR5 hU5 hs5));refine (Xu _).mono ?_;rintro e w6 ⟨rfl,rfl⟩;go_wp2;have hUw5:Upd [b] w w5:=(hU3w.alloc _).then (hU5.mono (by simp));have hR5b:=(hR3.upd ((Upd.refl [] _).alloc _) (by simp)).upd hU5 (by simp);have hP5:=(hP3.alloc _).upd hU5 (by simp);have hw3:=hU3w.size;rw [World.size_alloc] at hR5 hs5;have hRel0:WE (w5.alloc (.cells (zl yv).toArray 3)) b (w3.heap.size+1) s (List.replicate 19 0) (a+5+5+4) (w5.alloc (.cells (zl yv).toArray 3)) :=
          ⟨.refl _ _,hR5b.upd ((Upd.refl [] _).alloc _) (by simp),hR5.alloc _,by simp,by simp⟩
         have hOrd:=Blk.new w5 (zl yv) 3;have hUw6:Upd [b] w (w5.alloc (.cells (zl yv).toArray 3)):=hUw5.alloc _;have hP6:=hP5.alloc (.cells (zl yv).toArray 3);have hw6s:(w5.alloc (.cells (zl yv).toArray 3)).heap.size=w5.heap.size+1:=(by simp);change Code.wp _ _ _ _ (w5.alloc (.cells (zl yv).toArray 3));obtain ⟨ob,hob⟩ : ∃ ob,w5.heap.size=ob:=⟨_,rfl⟩;obtain ⟨fb,hfb⟩ : ∃ fb,w3.heap.size+1=fb:=⟨_,rfl⟩;rw [hob] at hOrd hs5 hw6s ⊢;rw [hfb] at hRel0 hs5 ⊢;have hfw:w.heap.size<fb:=(by omega);clear hUw5 hR5b hP5 hR5 hU5 hR3 hP3 hU3w c3 hob hw3;generalize w5.alloc (.cells (zl yv).toArray 3)=w6 at *;obtain ⟨k,hk⟩ : ∃ k,4+t3=k:=⟨_,rfl⟩;have hkI:(4:Int)+(t3:Int)=(k:Int):=(by omega);have hE2:=HE.out;rw [hk] at hE2 ⊢;rw [hkI];have HE:=Hi hE2;have hk19:k≤19:=(by omega);clear hE2 hk hkI;go_loopg [36] k (fun g s36 wr => ∃ i L a',i≤k∧g=k-i∧s36 = .int .i64 (i:Nat)∧xt s k 0 (List.replicate 19 0) (a+5+5+4)=xt s (k-i) i L a'∧WE w6 b fb s L a' wr)
         case atStart=>exact ⟨0,_,_,by omega,rfl,rfl,rfl,hRel0⟩
         case round =>
          obtain ⟨i,L,a',hik,rfl,rfl,hfp,hUr,hRr,hRow,hL19,hL15⟩:=hrel;clear hRel0;by_cases hc:i<k
          · have hcz:(i:Int)<(k:Int):=(by omega);have hstep:xt s (k-i) i L a'=match zu s a' 3 with
             | .error c => .error c
             | .ok r=>xt s (k-(i+1)) (i+1) (L.set (yv.getD i 0) r.1) r.2:=by
             rw [show k-i=(k-(i+1))+1 by omega]; rfl
            have o1:=(hOrd.upd hUr (by simp; omega)).cell i (zB _ _ _ (XJ i (by omega)));have hoi:=Vn i (by omega);have c6:=(hP6.upd hUr (by simp; omega)).cell 0 rfl;obtain ⟨xo,hxo⟩ : ∃ x,(zl L)[yv.getD i 0]? =some x:=⟨_,List.getElem?_eq_getElem (by rw [zq]; omega)⟩;generalize yv.getD i 0=oi at *;rcases zK s a' 3 with ⟨t,ht,hta,h⟩ | h
            · have HT:=Hi (yW hRr hs (by omega) h);rw [h] at hstep;have HF:=Hi (hfp.trans hstep);clear hfp hstep h;(go_wp2_with fail);refine HT.out.mono ?_;rintro e w7 ⟨rfl,hR7,hU7⟩;have hRow7:=hRow.upd hU7 (fun k hk hm=>by simp [Value.ownBlock] at hk hm; omega);have d7:=Row.cell hRow7 oi hxo;have f7:=Row.frz hRow7 oi;go_wp2;go_roundg (k-(i+1))
              case measure=>omega
              case rel =>
               refine ⟨i+1,L.set oi t,_,by omega,rfl,by go_num,HF.out,?_,?_,?_,by simpa using hL19,?_⟩
               · exact (hUr.then (hU7.mono (by simp))).setCell (.inl (by simp)) _
               · exact hR7.upd ((Upd.refl [fb] _).setCell (.inl (by simp)) _) (by simp; omega)
               · rw [xL]; exact Row.set hRow7 oi _
               · intro q hq;rcases List.mem_or_eq_of_mem_set hq with h | h
                 · exact hL15 q h
                 · omega
            · have HT:=Hi (xk hRr hs (by omega) h);rw [h] at hstep;have hfe:TP = .error 3:=(by rw [HE.out,hfp,hstep]; rfl);have HF:=Hi hfe;clear hfp hstep h hfe;(go_wp2_with fail);refine HT.out.mono ?_;rintro e w7 ⟨rfl,hU7⟩;go_wp2;rw [HF.out];exact ⟨rfl,rfl,hUw6.trans (hUr.then (hU7.mono (by simp))) (fun k hk=>by simp at hk; rcases hk with h | h; simp [h]; right; omega)⟩
          · have hcz : ¬ (i:Int)<(k:Int):=(by omega);have hi:i=k:=(by omega);subst hi;have hE2:=HE.out;rw [hfp,show i-i=0 by omega] at hE2;have HE:=Hi (show TP=qD s (257+t1) (1+t2) (L,a') from hE2);have hUwr:Upd [b] w wr:=hUw6.trans hUr (fun k hk=>by simp at hk; rcases hk with h | h; simp [h]; right; omega);have hP7:=hP6.upd hUr (by simp; omega);clear hfp hE2 hOrd hUr hUw6 hP6;have hI19:=IntsIn.part hRow (fun x hx=>by have:=hL15 x hx; omega) 0 19 (by omega);rw [List.drop_zero,← hL19,List.take_length,zr] at hI19;rw [hL19] at hI19;by_cases hk1:zm (ints L)=1
            · have hE2:=HE.out;unfold qD at hE2;rw [if_pos hk1] at hE2;have HE:=Hi hE2;clear hE2;have hKI:=kv (some ⟨fb,0,none⟩) 19 19 (ints L) wr (by decide) hI19;rw [hk1] at hKI;have HKI:=Hi hKI;have HKK:=Hi hk1;clear hKI hk1;(go_wp2_with fail);refine HKI.out.mono ?_;rintro e w8 ⟨rfl,hU8⟩;(go_wp2_with fail);refine (yB _).mono ?_;rintro e w9 ⟨rfl,rfl⟩;(go_wp2_with fail);refine (zd1 (some ⟨fb,0,none⟩) 19 19 (ints L) w8 (by decide) (hI19.pure hU8)).mono ?_;rintro e w9 ⟨hU9,⟨hk,_⟩ | ⟨hk3,hk0,d,dv,rfl,hD,hd,hdv⟩⟩
              · rw [HKK.out] at hk; omega
              · have hR9:=(hRr.upd hU8 (by simp)).upd hU9 (by simp);have hP9:=(hP7.upd hU8 (by simp)).upd hU9 (by simp);have hUw9:=(hUwr.then (hU8.mono (by simp))).then (hU9.mono (by simp));have hw8:w.heap.size≤w8.heap.size:=Nat.le_trans hUwr.size hU8.size;have hDF:DecFor w9 (.pointer (some ⟨d,0,none⟩)) (ints L) b := .inr ⟨hk3,hk0,d,dv,rfl,hD,by omega,fun h=>by have:=hdv b h; omega⟩;have c9:=hP9.cell 0 rfl;have hrow:=ziq b (257+t1+(1+t2)) (.pointer (some ⟨d,0,none⟩)) (ints L) w9 s a' hR9 hs hDF (by rw [zr]; omega) (by omega);have hEr:=HE.out;have hro:=fun L' a''=>@zdS (ints L) s (257+t1+(1+t2)) (257+t1+(1+t2)) [] a' L' a'' (by simp) (by simp) (by simp);clear hk3 hk0 hRr hRow hP7 hUwr hI19 HKI hU8 hU9 hD hd hdv hDF;generalize qq (ints L) s (257+t1+(1+t2)) (257+t1+(1+t2)) [] a'=RW at *;cases RW with
                | error c =>
                  have HEr:=Hi (show TP = .error c from hEr);have HR:=Hi hrow;clear hrow hEr hro;(go_wp2_with fail);refine HR.out.mono ?_;rintro e w10 ⟨rfl,hU10⟩;go_wp2;rw [HEr.out];exact ⟨rfl,rfl,hUw9.then hU10⟩
                | ok r =>
                  obtain ⟨L',a''⟩:=r;obtain ⟨hlen,h15⟩:=hro L' a'' rfl;have HEr:=Hi (show TP=kj (257+t1) (L',a'') from hEr);have HR:=Hi hrow;clear hrow hEr hro;(go_wp2_with fail);refine HR.out.mono ?_;rintro e w10 ⟨v,rfl,hRow,hR10,hU10,hfr⟩;obtain ⟨g,vc,rfl,hg1,hg2⟩:=hRow.form' (by omega);have hUw10:=hUw9.then hU10;have hgw:w.heap.size≤g:=Nat.le_trans hUw9.size (hfr g rfl);clear HR hU10 hfr hUw9 hP9 c9 hR9;have hlI:(257:Int)+(t1:Int)+(1+(t2:Int))=((257+t1+(1+t2):Nat):Int):=(by omega);have hx256:L'[256]? =some (L'.getD 256 0):=(by rw [List.getD,List.getElem?_eq_getElem (by omega)]; rfl);have d256:=Row.cell hRow 256 (zB _ _ _ hx256);have hxb:L'.getD 256 0≤15:=(by rw [List.getD,List.getElem?_eq_getElem (by omega)]; exact h15 _ (List.getElem_mem _));have hbb : ∀ x∈L',x≤1099511627776:=fun x hx=>(by have:=h15 x hx; omega);have hIA:=IntsIn.part hRow hbb 0 (257+t1) (by omega);have hIB:=IntsIn.part hRow hbb (257+t1) (1+t2) (by omega);rw [List.drop_zero] at hIA;rw [show (L'.drop (257+t1)).take (1+t2)=L'.drop (257+t1) by rw [List.take_of_length_le (by rw [List.length_drop]; omega)]] at hIB;have hlA:(ints (L'.take (257+t1))).length=257+t1:=(by rw [zr,List.length_take]; omega);have hlB:(ints (L'.drop (257+t1))).length=1+t2:=(by rw [zr,List.length_drop]; omega);have HLA:=Hi (fun w' hU cap=>ZK (some ⟨g,0,none⟩) cap (ints (L'.take (257+t1))) w' (by omega) (hIA.pure (w':=w') hU));have HLB:=Hi (fun w' hU cap=>ZK (some ⟨g,257+t1,none⟩) cap (ints (L'.drop (257+t1))) w' (by omega) (hIB.pure (w':=w') hU));have HKB:=Hi (fun w' hU cap=>kv (some ⟨g,257+t1,none⟩) _ cap (ints (L'.drop (257+t1))) w' (by omega) (hIB.pure (w':=w') hU));rw [hlA] at HLA;rw [hlB] at HLB HKB;have hHEr:=HEr.out;unfold kj at hHEr;simp only at hHEr;have hlA2:(L'.take (257+t1)).length=257+t1:=(by rw [List.length_take]; omega);have hlB2:(L'.drop (257+t1)).length=1+t2:=(by rw [List.length_drop]; omega);have hap:L'.take (257+t1)++L'.drop (257+t1)=L':=List.take_append_drop _ _;have hvc:(257:Int)+(t1:Int)≤(vc:Int):=(by omega);have hvl:(257:Int)+(t1:Int)≤(L'.length:Int):=(by omega);have h0n:(0:Int)≤(257:Int)+(t1:Int):=(by omega);have hlv:(L'.length:Int)≤(vc:Int):=(by omega);have h256:(256:Int)<(L'.length:Int):=(by omega);have HREST:=Hi (show (257+t1+(1+t2))=L'.length from hlen.symm);have HTP:=Hi hHEr;clear hHEr hIA hIB hlA hlB hx256 hlI HEr hbb h15;generalize L'.getD 256 0=x256 at *;by_cases hx0:x256=0
                  · subst hx0;have d256':w10.cell? ⟨g,256,none⟩=some (.int .i64 0):=d256;have hE:=HTP.out;rw [if_neg (by simp)] at hE;have HE:=Hi hE;clear d256 hE;(go_wp2_with fail);refine (xa _).mono ?_;rintro e w11 ⟨rfl,rfl⟩;go_wp2;rw [HE.out];exact ⟨rfl,rfl,hUw10⟩
                  · have hx0f:decide ((0:Int)<(x256:Int))=true:=decide_eq_true (by omega);have hx0n:decide (0<x256)=true:=decide_eq_true (by omega);cases hA:yl (ints (L'.take (257+t1))) with
                    | false =>
                      have hE:=HTP.out;rw [if_neg (by rw [hA]; simp)] at hE;have HE:=Hi hE;rw [hA] at HLA;clear hE hA;(go_wp2_with fail);refine (HLA.out _ (.refl _ _) _).mono ?_;rintro e w11 ⟨rfl,hU11⟩;(go_wp2_with fail);refine (xa _).mono ?_;rintro e w12 ⟨rfl,rfl⟩;go_wp2;rw [HE.out];exact ⟨rfl,rfl,hUw10.then (hU11.mono (by simp))⟩
                    | true =>
                      have hE:=HTP.out;rw [if_pos ⟨by omega,hA⟩] at hE;rw [hA] at HLA;have HTP2:=Hi hE;clear hE hA HTP;(go_wp2_with fail);refine (HLA.out _ (.refl _ _) _).mono ?_;rintro e w11 ⟨rfl,hU11⟩;(go_wp2_with fail);refine (yB _).mono ?_;rintro e w12 ⟨rfl,rfl⟩;obtain ⟨kB,hkB⟩ : ∃ kB,zm (ints (L'.drop (257+t1)))=kB:=⟨_,rfl⟩;rw [hkB] at HKB;have HP2:=HTP2.out;rw [hkB] at HP2;have HTP:=Hi HP2;clear hkB HP2 HTP2;by_cases hk0:kB=0
                      · subst hk0;have hE:=HTP.out;rw [if_pos (.inl rfl)] at hE;have HE:=Hi hE;clear hE;(go_wp2_with fail);refine (HKB.out _ hU11 _).mono ?_;rintro e w12 ⟨rfl,hU12⟩;(go_wp2_with fail);refine (yB _).mono ?_;rintro e w13 ⟨rfl,rfl⟩;have hU10t:Upd [] w10 w12:=hU11.then hU12;go_wp2
                        go_quiet (fail)
                        go_wp2;go_returns;rw [HE.out];refine ⟨g,257+t1,vc,hlA2.symm,?_,?_,?_,?_,hgw⟩
                        · rw [hlB2]; simp
                        · rw [hap]; exact Row.upd hRow (hU10t.drewN _) (by simp)
                        · exact hR10.upd (hU10t.drewN _) (by simp)
                        · exact hUw10.then ((hU10t.drewN _).mono (by simp))
                      · have hkf:((kB:Int)==0)=false:=(by simp; omega);cases hB:yl (ints (L'.drop (257+t1))) with
                        | false =>
                          have hE:=HTP.out;rw [if_neg (by rw [hB]; simp; exact hk0)] at hE;have HE:=Hi hE;rw [hB] at HLB;clear hE hB;(go_wp2_with fail);refine (HKB.out _ hU11 _).mono ?_;rintro e w12 ⟨rfl,hU12⟩;(go_wp2_with fail);refine (HLB.out _ (hU11.then hU12) _).mono ?_;rintro e w13 ⟨rfl,hU13⟩;(go_wp2_with fail);refine (xa _).mono ?_;rintro e w14 ⟨rfl,rfl⟩;go_wp2;rw [HE.out];exact ⟨rfl,rfl,hUw10.then (((hU11.then hU12).then hU13).mono (by simp))⟩
                        | true =>
                          have hE:=HTP.out;rw [if_pos (.inr hB)] at hE;have HE:=Hi hE;rw [hB] at HLB;clear hE hB;(go_wp2_with fail);refine (HKB.out _ hU11 _).mono ?_;rintro e w12 ⟨rfl,hU12⟩;(go_wp2_with fail);refine (HLB.out _ (hU11.then hU12) _).mono ?_;rintro e w13 ⟨rfl,hU13⟩;(go_wp2_with fail);refine (yB _).mono ?_;rintro e w14 ⟨rfl,rfl⟩;have hU10t:Upd [] w10 w13:=(hU11.then hU12).then hU13;go_wp2
                          go_quiet (fail)
                          go_wp2;go_returns;rw [HE.out];refine ⟨g,257+t1,vc,hlA2.symm,?_,?_,?_,?_,hgw⟩
                          · rw [hlB2]; simp
                          · rw [hap]; exact Row.upd hRow (hU10t.drewN _) (by simp)
                          · exact hR10.upd (hU10t.drewN _) (by simp)
                          · exact hUw10.then ((hU10t.drewN _).mono (by simp))
            · have hE2:=HE.out;unfold qD at hE2;rw [if_neg hk1] at hE2;have HE:=Hi hE2;clear hE2;have hKI:=kv (some ⟨fb,0,none⟩) 19 19 (ints L) wr (by decide) hI19;obtain ⟨kk,hkk⟩ : ∃ kk,zm (ints L)=kk:=⟨_,rfl⟩;rw [hkk] at hKI hk1;have hkf:((kk:Int)==1)=false:=(by simp; omega);have HKI:=Hi hKI;clear hKI hk1 hkk;(go_wp2_with fail);refine HKI.out.mono ?_;rintro e w8 ⟨rfl,hU8⟩;(go_wp2_with fail);refine (xa _).mono ?_;rintro e w9 ⟨rfl,rfl⟩;go_wp2;rw [HE.out];exact ⟨rfl,rfl,hUwr.then (hU8.mono (by simp))⟩
       · by_cases hf1:257+t1≤286
         · have hf1':decide ((257:Int)+(t1:Int)≤286)=true:=decide_eq_true (by omega);have hf2:decide ((1:Int)+(t2:Int)≤30)=false:=decide_eq_false (by omega);have hE:=HE.out;unfold xB at hE;rw [if_neg hfit] at hE;have HE:=Hi hE;clear hE;(go_wp2_with fail);refine (xa _).mono ?_;rintro e w4 ⟨rfl,rfl⟩;go_wp2;rw [HE.out];exact ⟨rfl,rfl,hU3w⟩
         · have hf1':decide ((257:Int)+(t1:Int)≤286)=false:=decide_eq_false (by omega);have hE:=HE.out;unfold xB at hE;rw [if_neg hfit] at hE;have HE:=Hi hE;clear hE;(go_wp2_with fail);refine (xa _).mono ?_;rintro e w4 ⟨rfl,rfl⟩;go_wp2;rw [HE.out];exact ⟨rfl,rfl,hU3w⟩
     · have hE:TP = .error 3:=(by rw [HE.out,h3]; rfl);have HE:=Hi hE;have HT3:=Hi (xk hR2 hs (by omega) h3);clear hE h3;(go_wp2_with fail);refine HT3.out.mono ?_;rintro e w3 ⟨rfl,hU3⟩;go_wp2;rw [HE.out];exact ⟨rfl,rfl,hU2.then hU3⟩
   · have hE:TP = .error 3:=(by rw [HS.out,h1]; show (zu s (a+5) 5 >>= _)=_; rw [h2]; rfl);have HE:=Hi hE;clear hE HS h1;have e1:IntKind.i64.wrap (257+(t1:Int))=257+(t1:Int):=IntWalk.i64_in _ (by omega);refine wp_region_held_drew (S:=fun w'=>w'.cell? ⟨w.heap.size,0,none⟩=some (.pointer (some ⟨b,0,none⟩))) (by kernel_rfl) c0 (fun hHeld=>?_);refine wpAnyH_take (i:=0) (v:=?v0_7) rfl (by kernel_rfl) (by kernel_rfl) (by kernel_rfl) (fun _ _ _ h=>h) (Or.inl ⟨by rfl,?hy0_7⟩) (by assumption) ?r0_7
     case hy0_7=>(intro w hSw; (try dsimp only at hSw); go_simp; try with_reducible rfl)
     (try simp only [Act.put,List.setIfInBounds_toArray,List.set_cons_zero,List.set_cons_succ]);refine wpAnyH_take (i:=3) (v:=?v3_8) rfl (by kernel_rfl) (by kernel_rfl) (by kernel_rfl) (fun _ _ _ h=>h) (Or.inl ⟨by rfl,?hy3_8⟩) (by assumption) ?r3_8
     case hy3_8=>(intro w hSw; (try dsimp only at hSw); go_simp; try with_reducible rfl)
     (try simp only [Act.put,List.setIfInBounds_toArray,List.set_cons_zero,List.set_cons_succ]);refine wpAnyH_ready (rs:=[1]) (by kernel_rfl) (by simp) ?_;refine AllReadyH.cons rfl (fun K hK=>?_) AllReadyH.nil;go_simp
     go_at_call 229
     refine HT1.out.mono ?_;rintro e w1 ⟨rfl,hR1,hU1⟩;have c1:w1.cell? ⟨w.heap.size,0,none⟩=some (.pointer (some ⟨b,0,none⟩)):=((hP.drew).upd hU1 (by simp; omega)).cell 0 rfl;have HT2:=Hi (xk hR1 hs (by omega) h2);go_wp2;refine hK.out _ _ c1 (fun hHeld=>?_);clear hK K;(try simp only [Act.put,List.setIfInBounds_toArray,List.set_cons_zero,List.set_cons_succ]);refine wpAnyH_take (i:=2) (v:=?v2_9) rfl (by kernel_rfl) (by kernel_rfl) (by kernel_rfl) (fun _ _ _ h=>h) (Or.inl ⟨by rfl,?hy2_9⟩) (by assumption) ?r2_9
     case hy2_9=>(intro w hSw; (try dsimp only at hSw); go_simp; try with_reducible rfl)
     (try simp only [Act.put,List.setIfInBounds_toArray,List.set_cons_zero,List.set_cons_succ]);refine wpAnyH_ready (rs:=[4]) (by kernel_rfl) (by simp) ?_;refine AllReadyH.cons rfl (fun K hK=>?_) AllReadyH.nil;go_simp
     go_at_call 229
     refine HT2.out.mono ?_;rintro e w2 ⟨rfl,hU2⟩;go_wp2;rw [HE.out];exact ⟨rfl,rfl,hU0b'.out.drew.then (hU1.then hU2)⟩
 · have hE:TP = .error 3:=(by rw [HS.out,h1]; rfl);have HE:=Hi hE;have HT1:=Hi (xk (hR0.upd (Upd.drew (Upd.refl [] _)) (by simp)) hs (by omega) h1);clear hE HS h1;refine wp_region_held_drew (S:=fun w'=>w'.cell? ⟨w.heap.size,0,none⟩=some (.pointer (some ⟨b,0,none⟩))) (by kernel_rfl) c0 (fun hHeld=>?_);refine wpAnyH_take (i:=0) (v:=?v0_10) rfl (by kernel_rfl) (by kernel_rfl) (by kernel_rfl) (fun _ _ _ h=>h) (Or.inl ⟨by rfl,?hy0_10⟩) (by assumption) ?r0_10
   case hy0_10=>(intro w hSw; (try dsimp only at hSw); go_simp; try with_reducible rfl)
   try simp only [Act.put,List.setIfInBounds_toArray,List.set_cons_zero,List.set_cons_succ]
   refine wpAnyH_take (i:=3) (v:=?v3_11) rfl (by kernel_rfl) (by kernel_rfl) (by kernel_rfl) (fun _ _ _ h=>h) (Or.inl ⟨by rfl,?hy3_11⟩) (by assumption) ?r3_11
   case hy3_11=>(intro w hSw; (try dsimp only at hSw); go_simp; try with_reducible rfl)
   try simp only [Act.put,List.setIfInBounds_toArray,List.set_cons_zero,List.set_cons_succ]
   refine wpAnyH_ready (rs:=[1]) (by kernel_rfl) (by simp) ?_;refine AllReadyH.cons rfl (fun K hK=>?_) AllReadyH.nil;go_simp
   go_at_call 229
   refine HT1.out.mono ?_;rintro e w1 ⟨rfl,hU1⟩;go_wp2;rw [HE.out];exact ⟨rfl,rfl,hU0b'.out.drew.then hU1⟩
end Go.Proofs.YtfkenhihcmmgkaaGreatDoor
