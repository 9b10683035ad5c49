/- Package swingleref08: Tables: its walk, first part (to the lengths' lengths). -/
import Derived.Test.YtfkenhihcmmgkaaGreatDoorQAX
set_option linter.unusedVariables false
set_option linter.unusedSimpArgs false
set_option linter.unusedSectionVars false
set_option maxRecDepth 100000
set_option maxHeartbeats 12800000
namespace Go.Proofs.YtfkenhihcmmgkaaGreatDoor
open Go.RowKit
theorem zaS (s:ByteArray) (k i:Nat) (hi:i<k) (L:List Nat) (a:Nat):xt s (k-i) i L a=zu s a 3 >>= fun r=>xt s (k-(i+1)) (i+1) (L.set (yv.getD i 0) r.1) r.2:=by
 rw [show k-i=(k-(i+1))+1 by omega];simp only [xt];cases zu s a 3<;>rfl
def YV (s:ByteArray) (n m:Nat) (F:List Nat) (f:Nat) (L:List Nat) (a:Nat):Except Nat ((List Nat×List Nat)×Nat):=qq (ints F) s (n+m) f L a >>= kj n
def QC (s:ByteArray) (n m:Nat) (F:List Nat) (f:Nat) (L:List Nat) (q:(Nat×Nat)×Nat):Except Nat ((List Nat×List Nat)×Nat) :=
 if decide (L.length+q.1.1≤n+m)=true then YV s n m F f (L++List.replicate q.1.1 q.1.2) q.2 else .error 2
theorem zfo (s:ByteArray) (n m:Nat) (F:List Nat) (f:Nat) (L:List Nat) (a:Nat) (h:L.length<n+m) :
 YV s n m F (f+1) L a=yk (ints F) s a >>= fun r=>xV s r.1 L r.2 >>= QC s n m F f L:=by
 unfold YV;rw [Vj _ _ _ _ _ _ h];cases yk (ints F) s a with
 | error c=>rfl
 | ok r =>
   show ((xV s r.1 L r.2 >>= _) >>= _)=(xV s r.1 L r.2 >>= _);cases xV s r.1 L r.2 with
   | error c=>rfl
   | ok q =>
     show ((if q.1.1≤n+m-L.length then _ else _) >>= _)=QC s n m F f L q;unfold QC YV;by_cases hc:L.length+q.1.1≤n+m
     · rw [if_pos (by omega),if_pos (by simpa using hc)]
     · rw [if_neg (by omega),if_neg (by simpa using hc)]; rfl
theorem zhQ (s:ByteArray) (n m:Nat) (F:List Nat) (f:Nat) (L:List Nat) (a:Nat) (h : ¬ L.length<n+m):YV s n m F f L a=kj n (L,a):=by
 unfold YV;rw [YJ h]; rfl
theorem zjH (s:ByteArray) (L:List Nat) (a:Nat) (k:(Nat×Nat)×Nat→Except Nat ((List Nat×List Nat)×Nat)) :
 (xV s 16 L a >>= k)=if decide (0<L.length)=true then zu s a 2 >>= fun r=>k ((3+r.1,L.getLastD 0),r.2) else .error 2:=by
 unfold xV xj;rw [if_pos (by omega),if_pos rfl];by_cases h:L=[]
 · rw [if_pos h,if_neg (by simp [h])]; rfl
 · rw [if_neg h,if_pos (by simpa using List.length_pos_iff.2 h)];cases zu s a 2<;>rfl
theorem zj6 (s:ByteArray) (L:List Nat) (a:Nat) (k:(Nat×Nat)×Nat→Except Nat ((List Nat×List Nat)×Nat)) :
 (xV s 17 L a >>= k)=zu s a 3 >>= fun r=>k ((3+r.1,0),r.2):=by
 unfold xV xj;rw [if_pos (by omega),if_neg (by omega),if_pos rfl];cases zu s a 3<;>rfl
theorem zjF (s:ByteArray) (L:List Nat) (a:Nat) (k:(Nat×Nat)×Nat→Except Nat ((List Nat×List Nat)×Nat)) :
 (xV s 18 L a >>= k)=zu s a 7 >>= fun r=>k ((11+r.1,0),r.2):=by
 unfold xV xj;rw [if_pos (by omega),if_neg (by omega),if_neg (by omega)];cases zu s a 7<;>rfl
theorem ziH (s:ByteArray) (v:Nat) (hv:v≤15) (L:List Nat) (a:Nat) (k:(Nat×Nat)×Nat→Except Nat ((List Nat×List Nat)×Nat)):(xV s v L a >>= k)=k ((1,v),a):=by
 unfold xV;rw [if_neg (by omega)];rfl
theorem JS (a:Option Addr) (len cap:Nat) (l:List Int) (w:World) (hlen:len≤9223372036854775807) (hI:IntsIn w a len l) :
 Calls Tryz.prog 184 #[.slice a len cap] w fun e w' => ∃ cv,e = .returned cv∧Upd [] w w'∧(zm l≠3 → ∃ g,cv = .slice (some ⟨g,0,none⟩) l.length l.length∧w.heap.size≤g∧Row w' 24 1 (.slice (some ⟨g,0,none⟩) l.length l.length) l.length (qf (jo (zj l)))):=by
 refine (zb3 a len cap l w hlen hI).mono ?_;rintro e w' ⟨hU,⟨h3,rfl⟩ | ⟨h3,g,rfl,hg,hR⟩⟩
 · exact ⟨_,rfl,hU,fun h=>absurd h3 h⟩
 · exact ⟨_,rfl,hU,fun _=>⟨g,rfl,hg,hR⟩⟩
structure RowSt (w0 w:World) (bx br:Nat) (s:ByteArray) (O:ByteArray) (most:Nat) (v:Value) (L:List Nat) (why a:Nat):Prop where
 x:XAt w bx br s why a O most
 row:Row w 3 1 v L.length (zl L)
 le : ∀ x∈L,x≤15
 len:L.length≤320
 upd:Upd [bx,br] w0 w
 new : ∀ k,v.ownBlock=some k→w0.heap.size≤k
theorem RowSt.step {w0 w w':World} {bx br:Nat} {s:ByteArray} {O:ByteArray} {most:Nat} {v:Value} {L:List Nat} {why a why' a':Nat} (h:RowSt w0 w bx br s O most v L why a) (hbx:bx<w0.heap.size) (hbr:br<w0.heap.size) (hX:XAt w' bx br s why' a' O most) (hU:Upd [bx,br] w w'):RowSt w0 w' bx br s O most v L why' a' :=
 ⟨hX,h.row.upd hU (fun k hk hm=>by have:=h.new k hk; simp at hm; omega),h.le,h.len,h.upd.then hU,h.new⟩
def zbz (s:ByteArray) (n m:Nat) (F:List Nat) (f:Nat) (M:List Nat) (v:Nat) (done:Bool) (T X a:Nat):Except Nat ((List Nat×List Nat)×Nat) :=
 if done=true then QC s n m F f M ((T,X),a) else xV s v M a >>= QC s n m F f M
structure RowGo (TP:Except Nat ((List Nat×List Nat)×Nat)) (w0 w:World) (bx br:Nat) (s:ByteArray) (O:ByteArray) (most n m:Nat) (F:List Nat) (f:Nat) (va:Value) (M:List Nat) (v:Nat) (done:Bool) (T X why a:Nat):Prop where
 st:RowSt w0 w bx br s O most va M why a
 sp:Sp TP why (zbz s n m F f M v done T X a)
 lo:done=false→T=1∧X=v
 t1:1≤T
 t2:T≤150
 x1:done=true→why=0→X≤15
 x2:X≤18
theorem Sp.late {α:Type} {TP x:Except Nat α} {why:Nat} (h:Sp TP why x) (hw:why≠0) (y:Except Nat α):Sp TP why y:=by
 rcases h with h | ⟨h,_⟩
 · exact .inl h
 · exact absurd h hw
theorem VP {why:Nat} {b:Bool} (h:JY why b 0):b=true:=by rcases h with ⟨h1,h2⟩ | ⟨_,h2,_⟩ | ⟨_,_,h2⟩<;>first | exact h2 | omega
theorem RowSt.push {w0 wr w9:World} {bx br:Nat} {s:ByteArray} {O:ByteArray} {most:Nat} {v v9:Value} {M:List Nat} {X why a:Nat} (h:RowSt w0 wr bx br s O most v M why a) (hbx:bx<w0.heap.size) (hbr:br<w0.heap.size) (o:Obj)
 (hR:Row w9 3 1 v9 (M.length+1) (zl M++[.int .i64 (X:Nat)])) (hU:Upd v.ownBlock.toList (wr.alloc o) w9) (hT:Later (wr.alloc o) v v9) (hX:X≤15) (hl:M.length+1≤320):RowSt w0 w9 bx br s O most v9 (M++[X]) why a:=by
 have hnb : ∀ k∈v.ownBlock.toList,w0.heap.size≤k:=fun k hk=>h.new k (by simpa using hk);refine ⟨(h.x.upd ((Upd.refl [] wr).alloc o) (by simp) (by simp)).upd hU (fun hm=>by have:=hnb _ hm; omega) (fun hm=>by have:=hnb _ hm; omega),?_,?_,by simpa using hl,?_,?_⟩
 · rw [List.length_append]; simpa [zl] using hR
 · intro y hy;rcases List.mem_append.1 hy with h1 | h1
   · exact h.le y h1
   · simp at h1; omega
 · exact (h.upd.alloc o).trans hU (fun k hk => .inr (hnb k hk))
 · intro k hk;rcases hT with h1 | ⟨g,h1,h2⟩
   · rw [h1] at hk; exact h.new k hk
   · rw [h1] at hk; cases hk;rw [World.size_alloc] at h2;have:=h.upd.size;omega
theorem QI {why why':Nat} (h:JY why false why'):why'≠0:=by rcases h with ⟨h1,h2⟩ | ⟨_,h2,_⟩ | ⟨_,_,h2⟩<;>first | (cases h2; done) | omega
theorem zfO {s:ByteArray} {why a n v why' a':Nat} (h:Wf s why a n v why' a') (hw:why≠0):why'≠0:=by rcases h with ⟨_,_,h,_⟩ | ⟨h,_⟩ | ⟨h,_⟩<;>omega
def zgg (w:World) (bx br:Nat) (s:ByteArray) (O:ByteArray) (most:Nat) (TP:Except Nat ((List Nat×List Nat)×Nat)) (e:Ending) (w':World):Prop :=
 Upd [bx,br] w w'∧match TP with
 | .ok ((A,B),a') => ∃ g cap,e = .returned (.tuple #[.slice (some ⟨g,0,none⟩) A.length cap,.slice (some ⟨g,A.length,none⟩) B.length (cap-A.length)]) ∧
  IntsIn w' (some ⟨g,0,none⟩) A.length (ints A)∧IntsIn w' (some ⟨g,A.length,none⟩) B.length (ints B)∧XAt w' bx br s 0 a' O most∧w.heap.size≤g
 | .error c=>e = .returned (.tuple #[.slice none 0 0,.slice none 0 0]) ∧ ∃ a',XAt w' bx br s c a' O most
theorem zbm (bx br:Nat) (w:World) (s:ByteArray) (a:Nat) (O:ByteArray) (most:Nat) (h:XAt w bx br s 0 a O most) (hs:s.size≤1099511627776) :
 Calls Tryz.prog 117 #[.pointer (some ⟨bx,0,none⟩)] w (zgg w bx br s O most (yY s a)):=by
 have hbx:=h.blk.lt;have hbr:br<w.heap.size:=by obtain ⟨bad,hR,_⟩:=h.rd; exact hR.1.lt
 have hne:=h.ne;obtain ⟨i0,hi0,hz0,hz1,hz2⟩:=info_parts qh;have HS:=Hi (show Sp (yY s a) 0 (zu s a 5 >>= fun r1=>zu s r1.2 5 >>= fun r2=>zu s r2.2 4 >>= fun r3=>xB s (257+r1.1) (1+r2.1) (4+r3.1) r3.2) from .inr ⟨rfl,rfl⟩);generalize hTP:yY s a=TP at *;have HTP:=Hi hTP;clear hTP;go_enter Tryz.func117,Tryz.ntmps117;go_wp2_with fail
 refine (yx bx br 5 w s 0 a O most h hs (by omega)).mono ?_;rintro e w1 ⟨v1,why1,a1,rfl,hv1,h1,hU1,ht1⟩;have H1:=Hi (HS.out.take ht1);have hb1:v1<32:=hv1;have e1:IntKind.i64.wrap (257+(v1:Int))=257+(v1:Int):=IntWalk.i64_in _ (by omega);clear ht1 hv1;go_wp2_with fail
 refine (yx bx br 5 w1 s why1 a1 O most h1 hs (by omega)).mono ?_;rintro e w2 ⟨v2,why2,a2,rfl,hv2,h2,hU2,ht2⟩;have H2:=Hi (H1.out.take ht2);have hb2:v2<32:=hv2;have e2:IntKind.i64.wrap (1+(v2:Int))=1+(v2:Int):=IntWalk.i64_in _ (by omega);clear ht2 hv2;go_wp2_with fail
 refine (yx bx br 4 w2 s why2 a2 O most h2 hs (by omega)).mono ?_;rintro e w3 ⟨v3,why3,a3,rfl,hv3,h3,hU3,ht3⟩;have H3:=Hi (H2.out.take ht3);have hb3:v3<16:=hv3;have e3:IntKind.i64.wrap (4+(v3:Int))=4+(v3:Int):=IntWalk.i64_in _ (by omega);clear ht3 hv3;have hUw3:=(hU1.then hU2).then hU3;clear h1 h2 hU1 hU2 hU3 HS h H1 H2;obtain ⟨n,hn⟩ : ∃ n,n=257+v1:=⟨_,rfl⟩;obtain ⟨m,hm⟩ : ∃ m,m=1+v2:=⟨_,rfl⟩;obtain ⟨k,hk⟩ : ∃ k,k=4+v3:=⟨_,rfl⟩;have E1:257+(v1:Int)=(n:Int):=by omega
 have E2:1+(v2:Int)=(m:Int):=by omega
 have E3:4+(v3:Int)=(k:Int):=by omega
 have hn1:257≤n∧n≤288:=by omega
 have hm1:1≤m∧m≤32:=by omega
 have hk1:4≤k∧k≤19:=by omega
 have H4:Hid (Sp TP why3 (if decide (n≤286∧m≤30)=true then xt s k 0 (List.replicate 19 0) a3 >>= qD s n m else .error 2)):=Hi (by
  have:=H3.out;dsimp only at this;rw [← hn,← hm,← hk] at this;unfold xB at this;simpa using this)
 clear H3 hn hm hk;go_upto_region 4 with fail
 go_cut [] (fun wx => ∃ why4,XAt wx bx br s why4 a3 O most∧Upd [bx,br] w3 wx∧Hid (Sp TP why4 (xt s k 0 (List.replicate 19 0) a3 >>= qD s n m)))
 case first =>
  by_cases hf1:n≤286
  · have t1:decide ((n:Int)≤286)=true:=decide_eq_true (by omega);by_cases hf2:m≤30
    · have t2:decide ((m:Int)≤30)=true:=decide_eq_true (by omega);(go_wp2_with fail);refine (zX bx br true w3 s why3 a3 O most h3).mono ?_;rintro e w4 ⟨why4,rfl,h4,hU4,hm4⟩;go_wp2;go_meet;exact ⟨why4,h4,hU4,Hi (by have:=H4.out; rw [decide_eq_true (p:=n≤286∧m≤30) ⟨hf1,hf2⟩] at this; exact this.must hm4)⟩
    · have t2:decide ((m:Int)≤30)=false:=decide_eq_false (by omega);(go_wp2_with fail);refine (zX bx br false w3 s why3 a3 O most h3).mono ?_;rintro e w4 ⟨why4,rfl,h4,hU4,hm4⟩;go_wp2;go_meet;exact ⟨why4,h4,hU4,Hi (by have:=H4.out; rw [decide_eq_false (p:=n≤286∧m≤30) (fun h=>hf2 h.2)] at this; exact this.must hm4)⟩
  · have t1:decide ((n:Int)≤286)=false:=decide_eq_false (by omega);(go_wp2_with fail);refine (zX bx br false w3 s why3 a3 O most h3).mono ?_;rintro e w4 ⟨why4,rfl,h4,hU4,hm4⟩;go_wp2;go_meet;exact ⟨why4,h4,hU4,Hi (by have:=H4.out; rw [decide_eq_false (p:=n≤286∧m≤30) (fun h=>hf1 h.1)] at this; exact this.must hm4)⟩
 case rest =>
  obtain ⟨why4,h4,hU4,H5⟩:=hcut;have hUw4:=hUw3.then hU4;clear h3 hU4 hUw3 H4;have hsz4:=hUw4.size;go_wp2_with (refine kz _ rfl _ _ 57 rfl 3 i0 _ Tryz.underlying57 hi0 hz0 hz1 rfl .i64 .i64 _ _ 19 rfl rfl rfl rfl (by rw [hz2]; omega) (by unfold maxLen; omega) ?_; intro w5 hR5 hU5 hs5)
  have hR5':Row w5 3 1 (.slice (some ⟨wc.heap.size,0,none⟩) 19 19) 19 (zl (List.replicate 19 0)):=hR5;have h5:=h4.upd hU5 (by simp) (by simp);have hOrd:=Blk.new w5 (zl yv) 3;have hU6:Upd [] w5 (w5.alloc (.cells (zl yv).toArray 3)):=(Upd.refl [] w5).alloc _;have h6:=h5.upd hU6 (by simp) (by simp);have hR6:=hR5'.upd hU6 (by simp);have hUw6:=(hUw4.then (hU5.mono (by simp))).then (hU6.mono (by simp));change Code.wp _ _ _ _ (w5.alloc (.cells (zl yv).toArray 3));have hs6:(w5.alloc (.cells (zl yv).toArray 3)).heap.size=w5.heap.size+1:=World.size_alloc _ _;obtain ⟨ob,hob⟩ : ∃ ob,w5.heap.size=ob:=⟨_,rfl⟩;obtain ⟨fb,hfb⟩ : ∃ fb,wc.heap.size=fb:=⟨_,rfl⟩;rw [hob] at hOrd hs5 hs6 ⊢;rw [hfb] at hR6 hs5 hsz4 ⊢;clear hR5 hR5' hU5 h5 h4 hU6 hUw4 hob hfb E1 E2 E3 e1 e2 e3 hb1 hb2 hb3;generalize w5.alloc (.cells (zl yv).toArray 3)=w6 at *;go_loopg [9] k (fun g s9 wr => ∃ i L why a',i≤k∧g=k-i∧s9 = .int .i64 (i:Nat)∧Hid (Sp TP why (xt s (k-i) i L a' >>= qD s n m))∧XAt wr bx br s why a' O most ∧
   Row wr 3 1 (.slice (some ⟨fb,0,none⟩) 19 19) 19 (zl L)∧L.length=19∧(∀ x∈L,x≤15)∧Upd [bx,br,fb] w6 wr)
  case atStart=>exact ⟨0,List.replicate 19 0,why4,a3,by omega,rfl,rfl,H5,h6,hR6,by simp,by simp,.refl _ _⟩
  case round =>
   obtain ⟨i,L,why,a',hik,rfl,rfl,H,hX,hRow,hL19,hL15,hUr⟩:=hrel;by_cases hc:i<k
   · have hcz:(i:Int)<(k:Int):=(by omega);have H':Hid (Sp TP why (zu s a' 3 >>= fun r=>xt s (k-(i+1)) (i+1) (L.set (yv.getD i 0) r.1) r.2 >>= qD s n m)):=Hi (by
      have:=H.out;rw [zaS s k i hc] at this;cases htk:zu s a' 3 with
      | error c=>rw [htk] at this; exact this
      | ok r=>rw [htk] at this; exact this)
     have hO:=hOrd.upd hUr (by simp; omega);have hoe:=XJ i (by omega);have o1:=hO.cell i (zB _ _ _ hoe);have hoi:=Vn i (by omega);obtain ⟨xo,hxo⟩ : ∃ x,(zl L)[yv.getD i 0]? =some x:=⟨_,List.getElem?_eq_getElem (by rw [zq]; omega)⟩;generalize yv.getD i 0=oi at *;have hoz:(0:Int)≤(oi:Int):=(by omega);have hoz9:(oi:Int)<19:=(by omega);have hi19:(i:Int)<19:=(by omega);have HOE:=Hi hoe;clear hoe;have HT:=Hi (yx bx br 3 wr.drew s why a' O most (hX.upd ((Upd.refl [] wr).drew) (by simp) (by simp)) hs (by omega));clear H;go_wp2
     go_region_law ((go_simp; go_at_call 113; refine HT.out.mono ?_; rintro e w7 ⟨v,why',a2,rfl,hv,h7,hU7,ht7⟩; have hRow7:=hRow.drew.upd hU7 (fun k hk hm=>by simp [Value.ownBlock] at hk hm; omega); have d7:=Row.cell hRow7 oi hxo; have f7:=Row.frz hRow7 oi; have o7:=(hO.drew.upd hU7 (by simp; omega)).cell i (zB _ _ _ HOE.out)))
     (all_goals go_wp2);(all_goals go_roundg (k-(i+1)));all_goals first
      | omega
      | (refine ⟨i+1,L.set oi v,why',a2,by omega,rfl,by first | rfl | go_num,Hi (H'.out.take ht7),?_,?_,by simpa using hL19,?_,?_⟩
         · exact h7.upd ((Upd.refl [fb] _).setCell (.inl (by simp)) _) (by simp; omega) (by simp; omega)
         · rw [xL]; exact Row.set hRow7 oi _
         · intro q hq;rcases List.mem_or_eq_of_mem_set hq with h | h
           · exact hL15 q h
           · have:v<8:=hv;omega
         · exact (hUr.drew.then (hU7.mono (by simp))).setCell (.inl (by simp)) _)
   · have hcz : ¬ (i:Int)<(k:Int):=(by omega);have hi:i=k:=(by omega);subst hi;have HK:Hid (Sp TP why (qD s n m (L,a'))):=Hi (by
      have:=H.out;rw [show i-i=0 by omega] at this;exact this)
     have hUwr:Upd [bx,br] w wr:=hUw6.trans hUr (fun k hk=>by
      simp only [List.mem_cons,List.not_mem_nil,or_false] at hk;rcases hk with h | h | h
      · exact .inl (by simp [h])
      · exact .inl (by simp [h])
      · exact .inr (by omega))
     clear H;have hI19:=IntsIn.part hRow (fun x hx=>by have:=hL15 x hx; omega) 0 19 (by omega);rw [List.drop_zero,← hL19,List.take_length,zr,hL19] at hI19;clear hOrd hUr h6 hR6 H5;have hsr:=hUwr.size;have hfw:w.heap.size≤fb:=(by omega);have HKI:=Hi (kt (some ⟨fb,0,none⟩) 19 19 (ints L) wr (by omega) hI19);obtain ⟨kk,hkk⟩ : ∃ kk,kk=zm (ints L):=⟨_,rfl⟩;rw [← hkk] at HKI;have HKK:=Hi hkk;clear hkk;(go_upto_region 11 with fail);go_cut [] (fun wx => ∃ why5,XAt wx bx br s why5 a' O most∧Upd [bx,br] wr wx∧Hid (Sp TP why5 (YV s n m L (n+m) [] a'))∧Hid (why5=0→kk=1))
     case first =>
      by_cases hk1:kk=1
      · have t1:((kk:Int)==1)=true:=(by rw [hk1]; rfl);(go_wp2_with fail);refine HKI.out.mono ?_;rintro e w8 ⟨rfl,rfl⟩;(go_wp2_with fail);refine (zX bx br true _ s why a' O most hX).mono ?_;rintro e w9 ⟨why5,rfl,h9,hU9,hm9⟩;go_wp2;go_meet;refine ⟨why5,h9,hU9,Hi (Sp.must (b:=true) ?_ hm9),Hi (fun _=>hk1)⟩;rw [if_pos rfl];have:=HK.out;unfold qD at this;rw [if_pos (by rw [← HKK.out]; exact hk1)] at this;exact this
      · have t1:((kk:Int)==1)=false:=(by simp; omega);(go_wp2_with fail);refine HKI.out.mono ?_;rintro e w8 ⟨rfl,rfl⟩;(go_wp2_with fail);refine (zX bx br false _ s why a' O most hX).mono ?_;rintro e w9 ⟨why5,rfl,h9,hU9,hm9⟩;go_wp2;go_meet;refine ⟨why5,h9,hU9,Hi (Sp.must (b:=false) ?_ hm9),Hi (fun h=>by rcases hm9 with ⟨h1,h2⟩ | ⟨_,h2,_⟩ | ⟨_,_,h2⟩<;>first | (cases h2; done) | omega)⟩;rw [if_neg (by simp)];have:=HK.out;unfold qD at this;rw [if_neg (by rw [← HKK.out]; exact hk1)] at this;exact this
     case rest =>
      obtain ⟨why5,h9,hU9,H9,hk5⟩:=hcut;have hI9:=hI19.upd hU9 (fun b off e=>by cases e; simp; omega);have hRow9:=hRow.upd hU9 (fun k hk hm=>by simp [Value.ownBlock] at hk hm; omega);have hUw9:=hUwr.then hU9;clear hUwr hU9 HK hX hI19 hRow HKI;(go_wp2_with fail);refine (JS (some ⟨fb,0,none⟩) 19 19 (ints L) _ (by omega) hI9).mono ?_;rintro e w10 ⟨cv,rfl,hU10,hcv⟩;have hsz9:=hUw9.size;have hI10:=hI9.pure hU10;have hX10:=h9.upd hU10 (by simp) (by simp);have hUw10:=hUw9.then (hU10.mono (by simp));have hsz10:=hUw10.size;have HC:Hid (kk=1→zm (ints L)≠3∧zm (ints L)≠0 ∧ ∃ g,cv = .slice (some ⟨g,0,none⟩) (ints L).length (ints L).length∧g∉[bx,br]∧Row w10 24 1 (.slice (some ⟨g,0,none⟩) (ints L).length (ints L).length) (ints L).length (qf (jo (zj (ints L))))):=Hi (fun h1=>by
       have hk:=HKK.out;obtain ⟨g,e,hg,hR⟩:=hcv (by omega);exact ⟨by omega,by omega,g,e,by simp; omega,hR⟩)
      clear hcv hU10 hI9 h9 hUw9 HKK hRow9;have hbx10:bx<w10.heap.size:=(by omega);have hbr10:br<w10.heap.size:=(by omega);go_wp2;go_loopg [11] (n+m+1) (fun gg s11 wr => ∃ G f M why a',gg=G∧Hid (Sp TP why (YV s n m L f M a'))∧Hid (why=0→kk=1∧M.length≤n+m∧n+m≤f+M.length∧n+m+1≤G+M.length)∧RowSt w10 wr bx br s O most s11 M why a')
      case atStart=>exact ⟨n+m+1,n+m,[],why5,a',rfl,H9,Hi (fun h=>⟨hk5.out h,by simp,by simp,by simp⟩),⟨hX10,Row.nil _ _ _,by simp,by simp,.refl _ _,by simp [Value.ownBlock]⟩⟩
      case round =>
       obtain ⟨G,f,M,why,a1',hgg,H,HW,hSt⟩:=hrel;by_cases hw:why=0
       · subst hw;obtain ⟨hkk1,hM1,hM2,hM3⟩:=HW.out rfl;obtain ⟨G,rfl⟩ : ∃ G0,G=G0+1:=⟨G-1,by omega⟩;subst hgg;obtain ⟨va,vc,rfl⟩:=hSt.row.form;have c3:=hSt.x.blk.cell 3 rfl;have z1:IntKind.i64.wrap ((n:Int)+(m:Int))=((n+m:Nat):Int):=(by rw [IntWalk.i64_in _ (by omega)]; omega);by_cases hc:M.length<n+m
         · have hcz:(M.length:Int)<((n+m:Nat):Int):=(by omega);have hcz2:decide (M.length<n+m)=true:=decide_eq_true (by omega);obtain ⟨f,rfl⟩ : ∃ f',f=f'+1:=⟨f-1,by omega⟩;have hsp:=H.out;rw [zfo s n m L f M a1' hc] at hsp;have H6:=Hi hsp;have hIr:=hI10.upd hSt.upd (fun b off e=>by cases e; simp; omega);have HN:=Zb (some ⟨fb,0,none⟩) 19 bx br cv (ints L) wr s 0 a1' O most hSt.x hs (by rw [zr,hL19]; exact hIr) (fun b off e=>by cases e; simp; omega) (fun _=>by
            obtain ⟨h3,h0,g,e,hg,hR⟩:=HC.out hkk1;exact ⟨h3,h0,g,e,by simp at hg; exact hg.2,hR.upd hSt.upd (fun k hk hm=>hg (by cases hk; exact hm))⟩)
           rw [zr,hL19] at HN;have HN':=Hi HN;clear HN hsp H HW hIr;(go_wp2_with fail);refine HN'.out.mono ?_;rintro e w11 ⟨v,why6,a6,rfl,hv,hX6,hU6,hn6⟩;have hv18:v≤18:=(by omega);have hSt6:=hSt.step hbx10 hbr10 hX6 hU6;have H7:=Hi (H6.out.next hn6);clear hn6 H6 hX6 hU6 hSt hv HN';(go_upto_if 74 with fail);go_cut [13,14] (fun s13 s14 wx => ∃ T X why7 a7,s13 = .int .i64 (T:Nat)∧s14 = .int .i64 (X:Nat)∧RowGo TP w10 wx bx br s O most n m L f (.slice va M.length vc) M v (decide (v=16)) T X why7 a7)
           case first =>
            by_cases hv16:v=16
            · subst hv16;have t1:(((16:Nat):Int)==16)=true:=rfl;have H8:=H7.out;(try dsimp only at H8);rw [zjH] at H8;have H9':=Hi H8;clear H8 H7;by_cases hM0:0<M.length
              · have t2:decide ((0:Int)<(M.length:Int))=true:=decide_eq_true (by omega);have t3:decide (0<M.length)=true:=decide_eq_true hM0;obtain ⟨g,vc2,e,hg1,hg2⟩:=hSt6.row.form' hM0;cases e;obtain ⟨q,hq⟩ : ∃ q,q+1=M.length:=⟨M.length-1,by omega⟩;have z2:IntKind.i64.wrap ((M.length:Int)-1)=(q:Int):=(by rw [IntWalk.i64_in _ (by have:=hSt6.len; omega)]; omega);have z3:(q:Int)<(M.length:Int):=(by omega);have z4:(0:Int)≤(q:Int):=(by omega);have hlast:M[q]? =some (M.getLastD 0):=by
                 rw [List.getLastD_eq_getLast?,List.getLast?_eq_getElem?,show M.length-1=q by omega,List.getElem?_eq_getElem (by omega)]; rfl
                have hl15:M.getLastD 0≤15:=hSt6.le _ (List.mem_of_getElem? hlast);have HLA:=Hi hlast;clear hlast;generalize M.getLastD 0=X at *;(go_wp2_with fail);refine (zX bx br true w11 s why6 a6 O most hSt6.x).mono ?_;rintro e w12 ⟨why7,rfl,h12,hU12,hm12⟩;have hSt12:=hSt6.step hbx10 hbr10 h12 hU12;(go_wp2_with fail);refine (yx bx br 2 w12 s why7 a6 O most h12 hs (by omega)).mono ?_;rintro e w13 ⟨tv,why8,a8,rfl,htv,h13,hU13,ht13⟩;have hSt13:=hSt12.step hbx10 hbr10 h13 hU13;have htv4:tv<4:=htv;obtain ⟨T,hT⟩ : ∃ T,T=3+tv:=⟨_,rfl⟩;have z5:IntKind.i64.wrap (3+(tv:Int))=(T:Int):=(by rw [IntWalk.i64_in _ (by omega)]; omega);have z5':3+(tv:Int)=(T:Int):=(by omega);have d13:=Row.cell hSt13.row q (u := .int .i64 (X:Nat)) (zB _ _ _ HLA.out);have HT:=Hi hT;clear hT hSt6 hSt12 h12 hU12 h13 hU13 htv;go_wp2;go_meet;refine ⟨T,X,why8,a8,rfl,rfl,hSt13,?_,by simp,by have:=HT.out; omega,by have:=HT.out; omega,fun _ _=>hl15,by omega⟩;have h1:=H9'.out;rw [t3] at h1;have h2:=(h1.must hm12).take ht13;rw [HT.out];exact h2
              · have t2:decide ((0:Int)<(M.length:Int))=false:=decide_eq_false (by omega);have t3:decide (0<M.length)=false:=decide_eq_false hM0;(go_wp2_with fail);refine (zX bx br false w11 s why6 a6 O most hSt6.x).mono ?_;rintro e w12 ⟨why7,rfl,h12,hU12,hm12⟩;have hSt12:=hSt6.step hbx10 hbr10 h12 hU12;(go_wp2_with fail);refine (yx bx br 2 w12 s why7 a6 O most h12 hs (by omega)).mono ?_;rintro e w13 ⟨tv,why8,a8,rfl,htv,h13,hU13,ht13⟩;have hSt13:=hSt12.step hbx10 hbr10 h13 hU13;have htv4:tv<4:=htv;obtain ⟨T,hT⟩ : ∃ T,T=3+tv:=⟨_,rfl⟩;have z5:IntKind.i64.wrap (3+(tv:Int))=(T:Int):=(by rw [IntWalk.i64_in _ (by omega)]; omega);have z5':3+(tv:Int)=(T:Int):=(by omega);have HT:=Hi hT;clear hT hSt6 hSt12 h12 hU12 h13 hU13 htv;go_wp2;go_meet;refine ⟨T,16,why8,a8,rfl,rfl,hSt13,?_,by simp,by have:=HT.out; omega,by have:=HT.out; omega,fun _ h=>absurd h (zfO ht13 (QI hm12)),by omega⟩;have h1:=H9'.out;rw [t3,if_neg (by simp)] at h1;have h2:Sp TP why6 (if false=true then zu s a6 2 >>= fun r=>QC s n m L f M ((3+r.1,16),r.2) else .error 2):=(by rw [if_neg (by simp)]; exact h1);have h3:=(h2.must hm12).take ht13;rw [HT.out];exact h3
            · have t1:((v:Int)==16)=false:=(by simp; omega);go_wp2;go_meet;exact ⟨1,v,why6,a6,rfl,rfl,hSt6,by rw [decide_eq_false hv16]; exact H7.out,fun _=>⟨rfl,rfl⟩,by omega,by omega,fun h=>by simp [hv16] at h,hv18⟩
           case rest =>
            obtain ⟨T7,X7,why7,a7,rfl,rfl,hG7⟩:=hcut;clear H7 hSt6;(go_upto_if 93 with fail);go_cut [13,14] (fun s13 s14 wx => ∃ T X why7 a7,s13 = .int .i64 (T:Nat)∧s14 = .int .i64 (X:Nat)∧RowGo TP w10 wx bx br s O most n m L f (.slice va M.length vc) M v (decide (v=16∨v=17)) T X why7 a7)
            case first =>
             by_cases hv17:v=17
             · subst hv17;have t1:(((17:Nat):Int)==17)=true:=rfl;(go_wp2_with fail);refine (yx bx br 3 _ s why7 a7 O most hG7.st.x hs (by omega)).mono ?_;rintro e w13 ⟨tv,why8,a8,rfl,htv,h13,hU13,ht13⟩;have hSt13:=hG7.st.step hbx10 hbr10 h13 hU13;have htv4:tv<8:=htv;obtain ⟨T,hT⟩ : ∃ T,T=3+tv:=⟨_,rfl⟩;have z5:IntKind.i64.wrap (3+(tv:Int))=(T:Int):=(by rw [IntWalk.i64_in _ (by omega)]; omega);have z5':3+(tv:Int)=(T:Int):=(by omega);have HT:=Hi hT;have HG:=Hi hG7;clear hT h13 hU13 htv hG7;go_wp2;go_meet;refine ⟨T,0,why8,a8,rfl,rfl,hSt13,?_,by simp,by have:=HT.out; omega,by have:=HT.out; omega,by omega,by omega⟩;have h1:=HG.out.sp;unfold zbz at h1 ⊢;rw [if_neg (by simp),zj6] at h1;rw [if_pos (by simp),HT.out];exact h1.take ht13
             · have t1:((v:Int)==17)=false:=(by simp; omega);go_wp2;go_meet;refine ⟨T7,X7,why7,a7,rfl,rfl,?_⟩;rw [show decide (v=16∨v=17)=decide (v=16) by simp [hv17]];exact hG7
            case rest =>
             clear hG7;obtain ⟨T7,X7,why7,a7,rfl,rfl,hG7⟩:=hcut;(go_upto_if 98 with fail);go_cut [13,14] (fun s13 s14 wx => ∃ T X why7 a7,s13 = .int .i64 (T:Nat)∧s14 = .int .i64 (X:Nat)∧RowGo TP w10 wx bx br s O most n m L f (.slice va M.length vc) M v true T X why7 a7)
             case first =>
              by_cases hv18':v=18
              · subst hv18';have t1:(((18:Nat):Int)==18)=true:=rfl;(go_wp2_with fail);refine (yx bx br 7 _ s why7 a7 O most hG7.st.x hs (by omega)).mono ?_;rintro e w13 ⟨tv,why8,a8,rfl,htv,h13,hU13,ht13⟩;have hSt13:=hG7.st.step hbx10 hbr10 h13 hU13;have htv4:tv<128:=htv;obtain ⟨T,hT⟩ : ∃ T,T=11+tv:=⟨_,rfl⟩;have z5:IntKind.i64.wrap (11+(tv:Int))=(T:Int):=(by rw [IntWalk.i64_in _ (by omega)]; omega);have z5':11+(tv:Int)=(T:Int):=(by omega);have HT:=Hi hT;have HG:=Hi hG7;clear hT h13 hU13 htv hG7;go_wp2;go_meet;refine ⟨T,0,why8,a8,rfl,rfl,hSt13,?_,by simp,by have:=HT.out; omega,by have:=HT.out; omega,by omega,by omega⟩;have h1:=HG.out.sp;unfold zbz at h1 ⊢;rw [if_neg (by simp),zjF] at h1;rw [if_pos rfl,HT.out];exact h1.take ht13
              · have t1:((v:Int)==18)=false:=(by simp; omega);go_wp2;go_meet;refine ⟨T7,X7,why7,a7,rfl,rfl,?_⟩;by_cases hd:v=16∨v=17
                · rw [decide_eq_true hd] at hG7; exact hG7
                · rw [decide_eq_false hd] at hG7;obtain ⟨e1,e2⟩:=hG7.lo rfl;have h1:=hG7.sp;unfold zbz at h1;rw [if_neg (by simp),ziH s v (by omega)] at h1;refine ⟨hG7.st,?_,by simp,hG7.t1,hG7.t2,fun _ _=>by omega,hG7.x2⟩;unfold zbz;rw [if_pos rfl,e1,e2];exact h1
             case rest =>
              clear hG7;obtain ⟨T,X,why7,a7,rfl,rfl,hG⟩:=hcut;have hT1:=hG.t1;have hT2:=hG.t2;have hX1:=Hi (hG.x1 rfl);have hSt7:=hG.st;have H7:Hid (Sp TP why7 (if decide (M.length+T≤n+m)=true then YV s n m L f (M++List.replicate T X) a7 else .error 2)):=Hi hG.sp;clear hG;have hM320:=hSt7.len;have z6:IntKind.i64.wrap ((M.length:Int)+(T:Int))=((M.length+T:Nat):Int):=(by rw [IntWalk.i64_in _ (by omega)]; omega);obtain ⟨bb,hbb⟩ : ∃ bb,decide (M.length+T≤n+m)=bb:=⟨_,rfl⟩;have hbb2:decide ((M.length:Int)+(T:Int)≤(n:Int)+(m:Int))=bb:=(by rw [← hbb]; exact decide_eq_decide.2 (by omega));rw [hbb] at H7;have HBB:=Hi hbb;clear hbb;(go_wp2_with fail);refine (zX bx br bb _ s why7 a7 O most hSt7.x).mono ?_;rintro e w14 ⟨why9,rfl,h14,hU14,hm14⟩;have hSt14:=hSt7.step hbx10 hbr10 h14 hU14;have H9:=Hi (H7.out.must hm14);have c14:=h14.blk.cell 3 rfl;by_cases hw9:why9=0
              · subst hw9;have hbt:=VP hm14;have hw7:why7=0:=(by rcases hm14 with ⟨h1,h2⟩ | ⟨h1,_⟩ | ⟨h1,_⟩<;>omega);have hX15:=hX1.out hw7;have hfit:M.length+T≤n+m:=(by have:=HBB.out; rw [hbt] at this; exact of_decide_eq_true this);clear hm14 hSt7 h14 hU14 H7 HBB hbb2;go_wp2;go_loopg [11,15] T (fun g s11 s15 wx => ∃ j,j≤T∧g=T-j∧s15 = .int .i64 (j:Nat)∧RowSt w10 wx bx br s O most s11 (M++List.replicate j X) 0 a7)
                case atStart=>exact ⟨0,by omega,rfl,rfl,by simpa using hSt14⟩
                case round =>
                 obtain ⟨j,hj,rfl,rfl,hS⟩:=hrel;have cj:=hS.x.blk.cell 3 rfl;by_cases hjT:j<T
                 · have hjz:(j:Int)<(T:Int):=(by omega);have hjd:decide (j<T)=true:=decide_eq_true hjT;have hrl:(M++List.replicate j X).length=M.length+j:=(by simp);have hrep:M++List.replicate (j+1) X=(M++List.replicate j X)++[X]:=(by rw [List.replicate_succ',List.append_assoc]);have HRP:=Hi hrep;clear hrep;have hm2:(M++List.replicate j X).length≤319:=(by rw [hrl]; omega);clear hrl;generalize M++List.replicate j X=M2 at *;obtain ⟨va2,vc2,rfl⟩:=hS.row.form;have hrow:=hS.row;(go_wp2_with (at_builtin; refine zH _ rfl _ _ 57 rfl 3 i0 _ 1 8 Tryz.underlying57 hi0 hz0 hz1 hz2 rfl (by omega) _ M2.length _ rfl (hrow.alloc _) ⟨wr.heap.size,0,none⟩ 1 1 [_] rfl rfl (World.news_of_block (cs := #[_]) (t:=3) (fr:=(0,0)) (heap_alloc_new _ _)) (by simp [Value.oneCell']) (by unfold maxLen; omega) (by omega) ?_));intro v9 w9 hR9 hU9 hT9;have hP:=hS.push hbx10 hbr10 (Obj.cells #[.int .i64 (X:Nat)] 3) hR9 hU9 hT9 hX15 (by omega);go_wp2;go_roundg (T-(j+1))
                   · exact ⟨j+1,by omega,rfl,by first | rfl | go_num,by rw [HRP.out]; exact hP⟩
                   · omega
                 · have hjz : ¬ (j:Int)<(T:Int):=(by omega);have hjd:decide (j<T)=false:=decide_eq_false hjT;have hjT2:j=T:=(by omega);subst hjT2;go_wp2;go_roundg G
                   · exact ⟨G,f,M++List.replicate j X,0,a7,rfl,H9,Hi (fun _=>⟨hkk1,by simp; omega,by simp; omega,by simp; omega⟩),hS⟩
                   · omega
              · have q1:((why9:Int)==0)=false:=(by simp; omega);have q2:(why9==0)=false:=(by simp; omega);have q3:(0:Int)<(T:Int):=(by omega);have q4:decide (0<T)=true:=decide_eq_true (by omega);have HL:=Hi (H9.out.late hw9 (YV s n m L f M a7));clear H9 H7;go_wp2;go_loopg [11,15] 1 (fun g s11 s15 wx=>s15 = .int .i64 0∧RowSt w10 wx bx br s O most s11 M why9 a7)
                case atStart=>exact ⟨rfl,hSt14⟩
                case round =>
                 obtain ⟨rfl,hS⟩:=hrel;have cj:=hS.x.blk.cell 3 rfl;go_wp2;go_roundg G
                 · exact ⟨G,f,M,why9,a7,rfl,HL,Hi (fun h=>absurd h hw9),hS⟩
                 · omega
         · have hcz : ¬ (M.length:Int)<((n+m:Nat):Int):=(by omega);have hcz2:decide (M.length<n+m)=false:=decide_eq_false hc;have hMl:M.length=n+m:=(by omega);have H8:Hid (Sp TP 0 (kj n (M,a1'))):=Hi (by have:=H.out; rwa [zhQ s n m L f M a1' hc] at this);clear H HW;obtain ⟨g,vc2,e,hg1,hg2⟩:=hSt.row.form' (by omega);cases e;have hnew:=hSt.new g rfl;have hlt256:(256:Int)<(M.length:Int):=(by omega);obtain ⟨x256,hx256⟩ : ∃ x,x=M.getD 256 0:=⟨_,rfl⟩;have hx:M[256]? =some x256:=(by rw [hx256,List.getD_eq_getElem?_getD,List.getElem?_eq_getElem (by omega)]; rfl);have d256:=Row.cell hSt.row 256 (zB _ _ _ hx);have hle15 : ∀ x∈M,x≤1099511627776:=fun x hx=>(by have:=hSt.le x hx; omega);have hIA:=IntsIn.part hSt.row hle15 0 n (by omega);have hIB:=IntsIn.part hSt.row hle15 n m (by omega);have hlA:(M.take n).length=n:=(by rw [List.length_take]; omega);have hlB:(M.drop n).length=m:=(by rw [List.length_drop]; omega);rw [List.drop_zero,zr,hlA] at hIA;rw [List.take_of_length_le (by omega),zr,hlB] at hIB;have hsp:=H8.out;unfold kj at hsp;dsimp only at hsp;rw [← hx256] at hsp;have H10:=Hi hsp;have HLA:=Hi hlA;have HLB:=Hi hlB;have HX:=Hi hx;clear hx hx256 hlA hlB hsp H8;have hvn : ¬ vc=n:=(by omega);have hvn2:n≤vc:=(by omega);have hnm1:(n:Int)≤(n:Int)+(m:Int):=(by omega);obtain ⟨A,hA⟩ : ∃ A,A=M.take n:=⟨_,rfl⟩;obtain ⟨B,hB⟩ : ∃ B,B=M.drop n:=⟨_,rfl⟩;rw [← hA] at hIA H10 HLA;rw [← hB] at hIB H10 HLB;clear hA hB;rw [hMl];have hlt257:(256:Int)<(n:Int)+(m:Int):=(by omega);clear hMl hlt256 hc hcz hcz2 hM1 hM2 hM3;(go_upto_region 35 with fail);go_cut [] (fun wx => ∃ whyA,XAt wx bx br s whyA a1' O most∧Upd [bx,br] wr wx∧Hid (Sp TP whyA (if zm (ints B)=0∨yl (ints B)=true then .ok ((A,B),a1') else .error 2)))
           case first =>
            by_cases hp:0<x256
            · have p1:decide ((0:Int)<(x256:Int))=true:=decide_eq_true (by omega);have p2:decide (0<x256)=true:=decide_eq_true hp;have RA:=Qf (some ⟨g,0,none⟩) vc (ints A) wr (by rw [zr,HLA.out]; omega) (by rw [zr,HLA.out]; exact hIA);rw [zr,HLA.out] at RA;have HRA:=Hi RA;clear RA;(go_wp2_with fail);refine HRA.out.mono ?_;rintro e w15 ⟨rfl,rfl⟩;(go_wp2_with fail);refine (zX bx br (yl (ints A)) _ s 0 a1' O most hSt.x).mono ?_;rintro e w16 ⟨whyA,rfl,h16,hU16,hm16⟩;go_wp2;go_meet;refine ⟨whyA,h16,hU16,Hi (Sp.must (b:=yl (ints A)) ?_ hm16)⟩;have h1:=H10.out;by_cases hb:yl (ints A)=true
              · rw [if_pos ⟨hp,hb⟩] at h1; rw [if_pos hb]; exact h1
              · rw [if_neg (fun h=>hb h.2)] at h1; rw [if_neg hb]; exact h1
            · have p1:decide ((0:Int)<(x256:Int))=false:=decide_eq_false (by omega);have p2:decide (0<x256)=false:=decide_eq_false hp;(go_wp2_with fail);refine (zX bx br false _ s 0 a1' O most hSt.x).mono ?_;rintro e w16 ⟨whyA,rfl,h16,hU16,hm16⟩;go_wp2;go_meet;refine ⟨whyA,h16,hU16,Hi (Sp.must (b:=false) ?_ hm16)⟩;have h1:=H10.out;rw [if_neg (fun h=>hp h.1)] at h1; rw [if_neg (by simp)]; exact h1
           case rest =>
            obtain ⟨whyA,hXA,hUA,H11⟩:=hcut;have hIA2:=hIA.upd hUA (fun b off e=>by cases e; simp; omega);have hIB2:=hIB.upd hUA (fun b off e=>by cases e; simp; omega);clear d256;(go_upto_region 36 with fail);go_cut [] (fun wx => ∃ whyB,XAt wx bx br s whyB a1' O most∧Upd [bx,br] wr wx∧Hid (Sp TP whyB (.ok ((A,B),a1'))))
            case first =>
             have KB:=kt (some ⟨g,n,none⟩) m (vc-n) (ints B) wc (by omega) hIB2;have RB:=Qf (some ⟨g,n,none⟩) (vc-n) (ints B) wc (by rw [zr,HLB.out]; omega) (by rw [zr,HLB.out]; exact hIB2);rw [zr,HLB.out] at RB;have HKB:=Hi KB;have HRB:=Hi RB;clear KB RB;obtain ⟨kb,hkb⟩ : ∃ kb,kb=zm (ints B):=⟨_,rfl⟩;rw [← hkb] at HKB H11;clear hkb;by_cases hk0:kb=0
             · have p1:((kb:Int)==0)=true:=(by rw [hk0]; rfl);(go_wp2_with fail);refine HKB.out.mono ?_;rintro e w17 ⟨rfl,rfl⟩;(go_wp2_with fail);refine (zX bx br true _ s whyA a1' O most hXA).mono ?_;rintro e w18 ⟨whyB,rfl,h18,hU18,hm18⟩;go_wp2;go_meet;refine ⟨whyB,h18,hUA.then hU18,Hi (Sp.must (b:=true) ?_ hm18)⟩;have h1:=H11.out;rw [if_pos (.inl hk0)] at h1;rw [if_pos rfl];exact h1
             · have p1:((kb:Int)==0)=false:=(by simp; omega);(go_wp2_with fail);refine HKB.out.mono ?_;rintro e w17 ⟨rfl,rfl⟩;(go_wp2_with fail);refine HRB.out.mono ?_;rintro e w17 ⟨rfl,rfl⟩;(go_wp2_with fail);refine (zX bx br (yl (ints B)) _ s whyA a1' O most hXA).mono ?_;rintro e w18 ⟨whyB,rfl,h18,hU18,hm18⟩;go_wp2;go_meet;refine ⟨whyB,h18,hUA.then hU18,Hi (Sp.must (b:=yl (ints B)) ?_ hm18)⟩;have h1:=H11.out;by_cases hb:yl (ints B)=true
               · rw [if_pos (.inr hb)] at h1; rw [if_pos hb]; exact h1
               · rw [if_neg (fun h=>h.elim hk0 hb)] at h1; rw [if_neg hb]; exact h1
            case rest =>
             obtain ⟨whyB,hXB,hUB,H12⟩:=hcut;have hIA3:=hIA.upd hUB (fun b off e=>by cases e; simp; omega);have hIB3:=hIB.upd hUB (fun b off e=>by cases e; simp; omega);have c3:=hXB.blk.cell 3 rfl;have hUw18:=(hUw10.then hSt.upd).then hUB;have hwg:w.heap.size≤g:=(by omega);by_cases hwB:whyB=0
             · subst hwB;have HT:Hid (TP = .ok ((A,B),a1')):=Hi (by rcases H12.out with ⟨h,_⟩ | ⟨_,h⟩; exact absurd rfl h; exact h);clear H12 H11 H10;go_wp2
               go_quiet (fail)
               go_wp2;go_returns;rw [HT.out];refine ⟨hUw18.drewN _,g,vc,?_,?_,?_,?_,hwg⟩
               · rw [HLA.out,HLB.out]; rfl
               · rw [HLA.out]; exact hIA3.pure ((Upd.refl [] _).drewN _)
               · rw [HLA.out,HLB.out]; exact hIB3.pure ((Upd.refl [] _).drewN _)
               · exact hXB.upd ((Upd.refl [] _).drewN _) (by simp) (by simp)
             · have q1:((whyB:Int) != 0)=true:=(by simp; omega);have q2:(whyB != 0)=true:=(by simp; omega);have HT:Hid (TP = .error whyB):=Hi (by rcases H12.out with ⟨_,h⟩ | ⟨h,_⟩; exact h; exact absurd h hwB);clear H12 H11 H10;go_wp2;go_returns;rw [HT.out];exact ⟨hUw18,rfl,a1',hXB⟩
       · have q1:((why:Int)==0)=false:=(by simp; omega);have q2:(why==0)=false:=(by simp; omega);have q3:((why:Int) != 0)=true:=(by simp; omega);have q4:(why != 0)=true:=(by simp; omega);have c3:=hSt.x.blk.cell 3 rfl;have hTPe:TP = .error why:=(by rcases H.out with ⟨_,h⟩ | ⟨h,_⟩; exact h; exact absurd h hw);have HTE:=Hi hTPe;clear hTPe H HW;go_wp2;go_returns;rw [HTE.out];exact ⟨hUw10.then hSt.upd,rfl,a1',hSt.x⟩
end Go.Proofs.YtfkenhihcmmgkaaGreatDoor
