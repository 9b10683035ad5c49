/- Package inflate: a stored block: plain, and the walk of store. -/
import Derived.Test.YtfkenhihcmmgkaaGreatDoorQAI
import Derived.Recover
set_option linter.unusedVariables false
set_option linter.unusedSimpArgs false
set_option linter.unusedSectionVars false
set_option maxRecDepth 100000
set_option maxHeartbeats 12800000
namespace Go.Proofs.YtfkenhihcmmgkaaGreatDoor
open Go.RowKit
def xx (s:ByteArray) (most:Nat) (out:List Nat) (n:Nat) (r:Nat×Nat):Except Nat (List Nat×Nat) :=
 if r.1=65535-n then
  (if xA s r.2 false (n:Nat)=true then .error 3 else if out.length+n≤most then .ok (out++zf (xC s r.2 false (n:Nat)),jv s r.2 false (n:Nat)) else .error 4)
 else .error 2
def jj (s:ByteArray) (most:Nat) (out:List Nat) (a:Nat):Except Nat (List Nat×Nat) :=
 zu s (xG a false) 16 >>= fun r=>zu s r.2 16 >>= xx s most out r.1
theorem zh7 (n:Nat) (h:n<65536):n ^^^ 65535=65535-n:=by
 have h2:BitVec.ofNat 16 n ^^^ 65535#16=65535#16-BitVec.ofNat 16 n:=by
  rw [show (65535#16:BitVec 16)=BitVec.allOnes 16 from rfl,BitVec.xor_allOnes,BitVec.allOnes_sub_eq_not]
 have h3:=congrArg BitVec.toNat h2;have e1:n%2^16=n:=Nat.mod_eq_of_lt h;have e2:65535%2^16=65535:=rfl;simp only [BitVec.toNat_xor,BitVec.toNat_ofNat,BitVec.toNat_sub,e1,e2] at h3;omega
theorem ziA (n:Nat) (h:n<65536):bits .xor .i64 (n:Int) 65535=((65535-n:Nat):Int):=by
 have h1:(BitVec.ofInt 64 (n:Int)).toNat=n:=by
  rw [BitVec.ofInt_natCast,BitVec.toNat_ofNat]; exact Nat.mod_eq_of_lt (by omega)
 have h2:(BitVec.ofInt 64 65535).toNat=65535:=by rfl
 show IntKind.i64.wrap ((BitVec.ofInt 64 (n:Int) ^^^ BitVec.ofInt 64 65535).toNat:Int)=_;rw [BitVec.toNat_xor,h1,h2,zh7 n h];exact IntWalk.i64_in _ (by omega)
theorem Km (x b:Nat) (v:Value) (w:World) (s:ByteArray) (a:Nat) (out:List Nat) (most:Nat) (h:StAt w x b v s a out most) (hs:s.size≤1099511627776) :
 Calls Tryz.prog 230 #[.pointer (some ⟨x,0,none⟩)] w (YB w x b v s most (.tuple #[]) (jj s most out a)):=by
 have HS:=Hi (show jj s most out a=(zu s (xG a false) 16 >>= fun r=>zu s r.2 16 >>= xx s most out r.1) by rfl);generalize jj s most out a=CP at *;obtain ⟨i1,hi1,hy0,hy1,hy2⟩:=info_parts Wl;have c0:=h.blk.cell 0 rfl;go_enter Tryz.func230,Tryz.ntmps230;go_wp2_with fail
 refine (Ys b w s a false h.rd hs).mono ?_;rintro e w1 ⟨rfl,hR1,hU1⟩;have h1:=h.read hU1 hR1;have c1:=h1.blk.cell 0 rfl;have hU1':=hU1;clear hU1 hR1;rcases zK s (xG a false) 16 with ⟨n,hn,hna,htk⟩ | htk
 · have hE:CP=(zu s (xG a false+16) 16 >>= xx s most out n):=(by rw [HS.out,htk]; rfl);have HE:=Hi hE;clear hE HS;go_wp2_with fail
   refine (yW h1.rd hs (by omega) htk).mono ?_;rintro e w2 ⟨rfl,hR2,hU2⟩;have h2:=h1.read hU2 hR2;have c2:=h2.blk.cell 0 rfl;have hUw2:Upd (yV x b v) w w2:=yp (hU1'.then hU2);clear hU2 hR2 htk;have hxor:=ziA n hn;rcases zK s (xG a false+16) 16 with ⟨m,hm,hma,htk⟩ | htk
   · have hE:CP=xx s most out n (m,xG a false+16+16):=(by rw [HE.out,htk]; rfl);unfold xx at hE;simp only at hE;have HE:=Hi hE;clear hE;by_cases hmn:m=65535-n
     · have hE:=HE.out;rw [if_pos hmn] at hE;have HE:=Hi hE;clear hE;have t1:(m==65535-n)=true:=(by simp [hmn]);have t2:((m:Int)==((65535-n:Nat):Int))=true:=(by rw [hmn]; simp);have t3:decide (m=65535-n)=true:=decide_eq_true hmn;(go_wp2_with fail);refine (yW h2.rd hs (by omega) htk).mono ?_;rintro e w3 ⟨rfl,hR3,hU3⟩;have h3:=h2.read hU3 hR3;have c3:=h3.blk.cell 0 rfl;have hUw3:=hUw2.then (yp (v:=v) (x:=x) hU3);clear hU3 hR3 htk;(go_wp2_with fail);refine (yB _).mono ?_;rintro e w4 ⟨rfl,rfl⟩;clear t1 t2 t3 hxor hmn hm hma h2 c2 h1 c1 c0 hU1';have hT:=Hi (zfA b (n:Nat) w3 s (xG a false+16+16) false h3.rd hs);cases hbad:xA s (xG a false+16+16) false (n:Nat) with
       | true =>
         rw [hbad] at hT;have HE:=Hi (show CP = .error 3 by rw [HE.out,if_pos hbad]);(go_wp2_with fail);refine hT.out.mono ?_;rintro e w4 ⟨rfl,hR4,hU4⟩;have c4:=(h3.blk.upd hU4 (by simpa using h.xb)).cell 0 rfl;(go_wp2_with fail);refine (yn b w4 _ s _ true hR4).mono ?_;rintro e w5 ⟨rfl,rfl⟩;go_wp2;rw [HE.out];exact ⟨rfl,rfl,hUw3.then (yp hU4)⟩
       | false =>
         rw [hbad] at hT;have hE:CP=if out.length+n≤most then .ok (out++zf (xC s (xG a false+16+16) false (n:Nat)),jv s (xG a false+16+16) false (n:Nat)) else .error 4:=(by rw [HE.out,if_neg (by rw [hbad]; simp)]);have hTl:(xC s (xG a false+16+16) false (n:Nat)).size=n:=by
          unfold xC;rw [hbad,if_neg (by simp)];simp [xA] at hbad;rw [ByteArray.size_extract];omega
         generalize xC s (xG a false+16+16) false (n:Nat)=T at *;generalize jv s (xG a false+16+16) false (n:Nat)=a5 at *;generalize xG a false+16+16=a4 at *;have HE:=Hi hE;clear hE;(go_wp2_with fail);refine hT.out.mono ?_;rintro e w4 ⟨rfl,hR4,hU4⟩;have h4:=h3.read hU4 hR4;have hUw4:=hUw3.then (yp (v:=v) (x:=x) hU4);have c4:=h4.blk.cell 0 rfl;clear hT hbad hUw3 h3 c3;(go_wp2_with fail);refine (yn b w4 _ s _ false hR4).mono ?_;rintro e w5 ⟨rfl,rfl⟩;by_cases hroom:out.length+n≤most
         · have HE:=Hi (show CP = .ok (out++zf T,a5) by rw [HE.out,if_pos hroom]);(go_wp2_with fail);refine (XA x b n v _ s _ out most h4 hroom).mono ?_;rintro e w8 ⟨rfl,k8,rfl⟩;have h8:=h4.pure ((Upd.refl [] _).drewN k8);have hUw8:=hUw4.drewN k8;clear h4 hUw4 hR4 hU4 c4;generalize w4.drewN k8=w8 at *;obtain ⟨va,vc,rfl⟩:=h8.row.form;have hrow:=h8.row;have hblk:=h8.blk;have hcap:=h8.cap;have c1:=hblk.cell 1 rfl;have f1:=hblk.frz 1;have hfx:x∉(Value.slice va out.length vc).ownBlock.toList:=(by have:=h8.vx; simpa [eq_comm] using this);(go_wp2_with (at_builtin; refine vX _ rfl _ _ 97 9 rfl 5 i1 Tryz.underlying97 Tryz.underlying9 hi1 hy0 hy1 hy2 (.slice va out.length vc) _ _ rfl hrow T rfl (by unfold maxLen; omega) (by omega) ?_));rintro v9 w9 hR9 hU9 hT9;obtain ⟨va9,vc9,rfl⟩:=hR9.form;have hB9:=hblk.upd hU9 hfx;have k9:=hB9.cell 1 rfl;have f9:=hB9.frz 1;rw [vR] at hR9;obtain ⟨hS9,hU',hT'⟩:=h8.push (.refl _ _) (zf T) hR9 hU9 hT9 (by rw [zi]; omega) (xf T);go_wp2;go_returns;rw [HE.out];exact ⟨rfl,_,hS9,hUw8.then hU',hT'.imp id fun ⟨g,h1,h2⟩=>⟨g,h1,Nat.le_trans hUw8.size h2⟩⟩
         · have HE:=Hi (show CP = .error 4 by rw [HE.out,if_neg hroom]);(go_wp2_with fail);refine (Wo x b n v _ s _ out most h4 hroom (by omega)).mono ?_;rintro e w8 ⟨rfl,k8,rfl⟩;go_wp2;rw [HE.out];exact ⟨rfl,rfl,hUw4.drewN k8⟩
     · have hE:=HE.out;rw [if_neg hmn] at hE;have HE:=Hi hE;clear hE;have t1:(m==65535-n)=false:=(by simp [hmn]);have t2:((m:Int)==((65535-n:Nat):Int))=false:=(by simp; omega);have t3:decide (m=65535-n)=false:=decide_eq_false hmn;(go_wp2_with fail);refine (yW h2.rd hs (by omega) htk).mono ?_;rintro e w3 ⟨rfl,hR3,hU3⟩;(go_wp2_with fail);refine (xa _).mono ?_;rintro e w4 ⟨rfl,rfl⟩;go_wp2;rw [HE.out];exact ⟨rfl,rfl,hUw2.then (yp hU3)⟩
   · have HE:=Hi (show CP = .error 3 by rw [HE.out,htk]; rfl);(go_wp2_with fail);refine (xk h2.rd hs (by omega) htk).mono ?_;rintro e w3 ⟨rfl,hU3⟩;go_wp2;rw [HE.out];exact ⟨rfl,rfl,hUw2.then (yp hU3)⟩
 · have HE:=Hi (show CP = .error 3 by rw [HS.out,htk]; rfl);go_wp2_with fail
   refine (xk h1.rd hs (by omega) htk).mono ?_;rintro e w3 ⟨rfl,hU3⟩;go_wp2;rw [HE.out];exact ⟨rfl,rfl,yp (hU1'.then hU3)⟩
def ya (n:List Nat) (i:Nat):List Bool:=low (n.getD i 0) (xM (zS n i) (n.getD i 0))
def zgt (n:List Nat) (s:Int):Bool:=decide (0≤s)&&decide (s<(n.length:Int))&&decide (n.getD s.toNat 0≠0)
def KC (n:List Nat) (m:List Int):Bool:=m.all (zgt n)
def xe (n:List Nat) (m:List Int):List Bool:=m.flatMap fun s=>ya n s.toNat
theorem xO (n:List Nat) (i:Nat):(ya n i).length=n.getD i 0:=by rw [ya,zO]
theorem Vq {n:List Nat} {m:List Int} {i:Nat} (h:i<m.length) (h1:KC n m=true):zgt n m[i]=true:=by
 unfold KC at h1;rw [List.all_eq_true] at h1;exact h1 _ (List.getElem_mem h)
theorem Wm (n:List Nat) {m:List Int} {i:Nat} (h:i<m.length):xe n (m.take (i+1))=xe n (m.take i)++ya n (m[i]).toNat:=by
 unfold xe; rw [take_snoc' m i h,List.flatMap_append,List.flatMap_cons,List.flatMap_nil,List.append_nil]
theorem zb1 (n:List Nat) (m:List Int) (h : ∀ x∈n,x≤15):(xe n m).length≤15*m.length:=by
 induction m with
 | nil=>simp [xe]
 | cons x m ih =>
   have e:xe n (x::m)=ya n x.toNat++xe n m:=rfl;rw [e,List.length_append,xO,List.length_cons];have:n.getD x.toNat 0≤15:=by
    rw [List.getD];by_cases hx:x.toNat<n.length
    · rw [List.getElem?_eq_getElem hx]; exact h _ (List.getElem_mem hx)
    · rw [List.getElem?_eq_none (by omega)]; simp
   omega
def zer (w:World) (b:Nat) (v:Value) (L:List Bool) (ok:Bool) (bits:List Bool) (e:Ending) (w':World):Prop :=
 e = .returned (.bool ok) ∧ ∃ v',WrAt w' b v' (L++bits) ((L++bits).length/8)∧Upd (xJ b v) w w'∧Later w v v'
theorem zcO (n:List Nat) (i:Nat) (h:i<n.length):(jo n)[i]? =some (zS n i):=by simp [jo,h]
theorem zeW (n:List Nat) (hps:je n 16≤32768) (h15 : ∀ x∈n,x≤15) (i:Nat) (h:i<n.length):zS n i<32768∧zS n i<2^(n.getD i 0):=by
 have hle:n.getD i 0≤15:=by rw [List.getD,List.getElem?_eq_getElem h]; exact h15 _ (List.getElem_mem h)
 have hb:=Ji n hps (n.getD i 0) hle;have hp:2^(n.getD i 0)≤2^15:=Nat.pow_le_pow_right (by omega) hle;unfold zS;by_cases h0:n.getD i 0=0
 · rw [if_pos h0,h0]; omega
 · rw [if_neg h0];have hc:=ZT n i _ h rfl;have hcn:cnt n (n.getD i 0)=n.count (n.getD i 0):=(by unfold cnt; rw [if_neg h0]);omega
theorem zfn (b:Nat) (v:Value) (L:List Bool) (x y:Option Addr) (cx cy:Nat) (l m:List Int) (w:World) (hm:m.length≤100000000) (hI : ∀ w',Upd (xJ b v) w w'→IntsIn w' x l.length l) (hM : ∀ w',Upd (xJ b v) w w'→IntsIn w' y m.length m)
 (hW:WrAt w b v L (L.length/8)) (hL:L.length≤1000000000000)
 (hk3:zm l≠3) (hmay:KC (zj l) m=true) :
 Calls Tryz.prog 293 #[.pointer (some ⟨b,0,none⟩),.slice x l.length cx,.slice y m.length cy] w (zer w b v L true (xe (zj l) m)):=by
 obtain ⟨hok,hps⟩:=qS hk3;have HO:=Hi hok;have hnl:=yj l;have h300:=(zC hok).1;have h15:=Hi (KV hok);have hcl:=Hi (fun i h=>zeW (zj l) hps h15.out i h);have hC:=zfp x l.length cx l w (by omega) (hI w (.refl _ _));have HI:=Hi hI;have HM:=Hi hM;have HK:=Hi hk3;have HY:=Hi hmay;have hwb:=hW.blk.lt;have hwv:=hW.row.lt;clear hI hM hok hps hk3 hmay;go_enter Tryz.func293,Tryz.ntmps293;go_wp2_with fail
 refine hC.mono ?_;rintro e w1 ⟨hU1,⟨h3,_⟩ | ⟨h3,g,rfl,hg,hR⟩⟩
 · exact absurd h3 HK.out
 · clear h3;have hUv:Upd (xJ b v) w w1:=hU1.mono (by simp);have hW1:=hW.upd hU1 (by simp) (by simp);have hR1:=Hi (fun w' (hU:Upd (xJ b v) w1 w')=>Row.upd hR hU (fun k hk hmm=>by
    simp [Value.ownBlock] at hk;simp only [xJ,List.mem_cons] at hmm;rcases hmm with h | h
    · omega
    · have:=hwv k (by simpa using h); omega))
   have hI1:=HI.out _ hUv;have hM1:=HM.out _ hUv;clear hR hW;go_wp2;go_loopg [16] m.length (fun g s16 wr => ∃ i,i≤m.length∧g=m.length-i∧s16 = .int .i64 (i:Nat)∧w1=wr)
   case atStart=>exact ⟨0,by omega,rfl,rfl,rfl⟩
   case round =>
    obtain ⟨i,hin,rfl,rfl,rfl⟩:=hrel;by_cases hc:i<m.length
    · have hcz:(i:Int)<(m.length:Int):=(by omega);obtain ⟨bm,off,rfl,c0,r1,r2⟩:=hM1.cell i hc;have hmb:=Vq hc HY.out;simp only [zgt,Bool.and_eq_true,decide_eq_true_eq] at hmb;generalize m[i]=s at *;obtain ⟨S,rfl⟩ : ∃ S:Nat,s=(S:Int):=⟨s.toNat,by omega⟩;have hSl:S<l.length:=(by omega);obtain ⟨bx,offx,rfl,d0,q1,q2⟩:=hI1.cell S hSl;have hkk:=(zC HO.out).2 _ (List.getElem_mem hSl);obtain ⟨k,hk⟩ : ∃ k:Nat,l[S]=(k:Int):=⟨(l[S]).toNat,by omega⟩;have hnd:(zj l).getD S 0=k:=(by rw [List.getD,List.getElem?_eq_getElem (by omega)]; simp [zj,hk]);rw [hk] at d0;rw [Int.toNat_natCast,hnd] at hmb;have hkf:((k:Int)==0)=false:=(by simp; omega);have hlf:decide ((l.length:Int)≤(S:Int))=false:=(by simp; omega);clear hmb hkk hk hnd q1 q2;go_wp2;go_roundg (m.length-(i+1))
      case measure=>omega
      case rel=>exact ⟨i+1,by omega,rfl,by go_num,rfl⟩
    · have hcz : ¬ (i:Int)<(m.length:Int):=(by omega);have hi:i=m.length:=(by omega);clear hi hc hin hI1 hM1;go_wp2;go_loopg [38] m.length (fun g s38 wr => ∃ j v',j≤m.length∧g=m.length-j∧s38 = .int .i64 (j:Nat)∧WrAt wr b v' (L++xe (zj l) (m.take j)) ((L++xe (zj l) (m.take j)).length/8)∧Upd (xJ b v) w1 wr∧Later w1 v v')
      case atStart=>exact ⟨0,v,by omega,rfl,rfl,by simpa [xe] using hW1,.refl _ _,.refl _ _⟩
      case round =>
       obtain ⟨j,v',hjn,rfl,rfl,hWj,hUj,hTj⟩:=hrel;clear hW1;by_cases hcj:j<m.length
       · have hcz2:(j:Int)<(m.length:Int):=(by omega);have hUj2:Upd (xJ b v) w wr:=hUv.then hUj;obtain ⟨bm,off,rfl,c0,r1,r2⟩:=(HM.out _ hUj2).cell j hcj;have hmb:=Vq hcj HY.out;simp only [zgt,Bool.and_eq_true,decide_eq_true_eq] at hmb;have hms:=Wm (zj l) hcj;have hlb:=zb1 (zj l) (m.take j) h15.out;have hlt:(m.take j).length≤j:=(by simp; omega);generalize m[j]=s at *;obtain ⟨S,rfl⟩ : ∃ S:Nat,s=(S:Int):=⟨s.toNat,by omega⟩;have hSl:S<l.length:=(by omega);obtain ⟨bx,offx,rfl,d0,q1,q2⟩:=(HI.out _ hUj2).cell S hSl;have hkk:=(zC HO.out).2 _ (List.getElem_mem hSl);obtain ⟨k,hk⟩ : ∃ k:Nat,l[S]=(k:Int):=⟨(l[S]).toNat,by omega⟩;have hnd:(zj l).getD S 0=k:=(by rw [List.getD,List.getElem?_eq_getElem (by omega)]; simp [zj,hk]);rw [hk] at d0 hkk;have d2:=Row.cell (hR1.out _ hUj) S (vY _ _ _ (zcO (zj l) S (by omega)));have hcc:=hcl.out S (by omega);have hsb:ya (zj l) S=low k (xM (zS (zj l) S) k):=(by unfold ya; rw [hnd]);rw [Int.toNat_natCast,hsb] at hms;rw [hnd] at hcc;have hms2:=Hi (show L++xe (zj l) (m.take (j+1))=(L++xe (zj l) (m.take j))++low k (xM (zS (zj l) S) k) by rw [hms,List.append_assoc]);have htn:=zaP (zS (zj l) S) k;have hlen2:(L++xe (zj l) (m.take j)).length≤1099511627776:=(by rw [List.length_append]; omega);clear hmb hk hnd q1 q2 hms hsb hlb hlt r1 r2;generalize L++xe (zj l) (m.take j)=M at *;have hTu:=zbT (zS (zj l) S) k (zS (zj l) S:Nat) (k:Nat) wr.drew rfl (by omega) (by omega) (Hi (by omega));have hBi:=Yd b (xM (zS (zj l) S) k) (xM (zS (zj l) S) k:Nat) (k:Nat) k wr.drew v' M rfl (Nat.lt_of_lt_of_le htn (Nat.le_trans (Nat.pow_le_pow_right (by omega) (show k≤15 by omega)) (by decide))) (hWj.upd ((Upd.refl [] _).drew) (by simp) (by simp)) (by omega) (by omega) (Hi (by omega));have HTu:=Hi hTu;have HBi:=Hi hBi;have htb:xM (zS (zj l) S) k<4294967296:=Nat.lt_of_lt_of_le htn (Nat.le_trans (Nat.pow_le_pow_right (by omega) (show k≤15 by omega)) (by decide));clear hTu hBi htn;generalize xM (zS (zj l) S) k=t at *;generalize zS (zj l) S=c at *;go_wp2;refine wp_region_still_tail 14 (by kernel_rfl) (by kernel_rfl) ?_;simp only [List.take_succ_cons,List.take_zero,List.drop_succ_cons,List.drop_zero]
         repeat still_step
         still_call (HTu.out.mono fun e w' ⟨he,hw⟩=>⟨he,hw.symm⟩)
         repeat still_step
         (try refine wpStill_nil ?_);change wpList _ _ _ _ _ wr.drew;(go_wp2_with fail);refine HBi.out.mono ?_;rintro e w3 ⟨rfl,v3,hW3,hU3,hT3⟩;go_wp2;go_roundg (m.length-(j+1))
         case measure=>omega
         case rel =>
          refine ⟨j+1,v3,by omega,rfl,by go_num,by rw [hms2.out]; exact hW3,(hUj.drew).trans hU3 ?_,hTj.trans hUj.size hT3⟩;intro q hq;simp only [xJ,List.mem_cons] at hq ⊢;rcases hq with h | h
          · exact .inl (.inl h)
          · exact (hTj.fp q h).imp .inr id
       · have hj:j=m.length:=(by omega);have hcz2 : ¬ (j:Int)<(m.length:Int):=(by omega);rw [hj,List.take_length] at hWj;clear hj;go_wp2;go_returns;refine ⟨rfl,v',hWj,hUv.then hUj,?_⟩;exact hTj.imp id fun ⟨g',h1,h2⟩=>⟨g',h1,Nat.le_trans hU1.size h2⟩
theorem IntsIn.far {w w':World} {a:Option Addr} {len:Nat} {l:List Int} {fp:List Nat} (h:IntsIn w a len l) (hU:Upd fp w w') (hf : ∀ k∈fp,w.heap.size≤k):IntsIn w' a len l :=
 ⟨h.len,fun i hi=>by
  obtain ⟨b,off,e,c,r⟩:=h.cell i hi;have hb:b<w.heap.size:=World.block_lt_of_cell? w _ c;exact ⟨b,off,e,(hU.at hb (fun hm=>by have:=hf b hm; omega) _).trans c,r⟩⟩
theorem IntsIn.of_row {w:World} {g n cap:Nat} {U:List Nat} (h:Row w 3 1 (.slice (some ⟨g,0,none⟩) n cap) n (zl U)) (hb : ∀ x∈U,x≤1099511627776):IntsIn w (some ⟨g,0,none⟩) (U.map fun x:Nat=>(x:Int)).length (U.map fun x:Nat=>(x:Int)) :=
 ⟨rfl,fun i hi=>by
  have hi':i<U.length:=by simpa using hi
  refine ⟨g,0,rfl,?_,?_⟩
  · rw [Nat.zero_add,Row.cell h i (zB _ _ _ (List.getElem?_eq_getElem hi'))]; simp
  · have:=hb _ (List.getElem_mem hi');simp only [List.getElem_map]; omega⟩
theorem yr {α β:Type} {x:Except Nat α} {f:α→Except Nat β} {y:β} (h:x >>= f = .ok y) : ∃ r,x = .ok r∧f r = .ok y:=by
 cases x with
 | error c=>cases h
 | ok r=>exact ⟨r,rfl,h⟩
theorem Ww {α β:Type} {x:Except Nat α} {f:α→β} {y:β} (h:x.map f = .ok y) : ∃ r,x = .ok r∧f r=y:=by
 cases x with
 | error c=>cases h
 | ok r=>cases h; exact ⟨r,rfl,rfl⟩
def Qd:List Int:=ints (yG 4)
def Ze:List Int:=ints (List.replicate 32 5)
def KT (s:ByteArray) (most F:Nat) (out:List Nat) (r:(List Nat×List Nat)×Nat):Except Nat (List Nat×Nat):=yT (ints r.1.1) (ints r.1.2) s most F out r.2
def qx (s:ByteArray) (most F:Nat) (out:List Nat) (r:Nat×Nat):Except Nat (List Nat×Nat) :=
 if r.1=0 then jj s most out r.2 else
  if r.1=1 then yT Qd Ze s most F out r.2 else
   if r.1=2 then yY s r.2 >>= KT s most F out else .error 2
def JA (k:Nat) (q:List Nat×Nat):Except Nat ((Bool×List Nat)×Nat) := .ok ((k==1,q.1),q.2)
def km (s:ByteArray) (most F:Nat) (out:List Nat) (a:Nat):Except Nat ((Bool×List Nat)×Nat) :=
 zu s a 1 >>= fun r=>(zu s r.2 2 >>= qx s most F out) >>= JA r.1
theorem zh4 (a:Nat):a≤xG a false:=by unfold xG; simp; omega
theorem zb7 {s:ByteArray} {most:Nat} {out out':List Nat} {a a':Nat} (h:jj s most out a = .ok (out',a')):a≤a':=by
 obtain ⟨r,h1,h2⟩:=yr h;obtain ⟨r2,h3,h4⟩:=yr h2;have e1:=yL h1;have e2:=yL h3;have e0:=zh4 a;unfold xx at h4;split at h4
 · split at h4
   · cases h4
   · rename_i hb;split at h4
     · cases h4;unfold jv;rw [if_neg hb];omega
     · cases h4
 · cases h4
theorem VH {l1 l2:List Int} {s:ByteArray} {most:Nat} : ∀ (g:Nat) {out out':List Nat} {a a':Nat},yT l1 l2 s most g out a = .ok (out',a')→a≤a':=by
 intro g
 induction g with
 | zero=>intro out out' a a' h; cases h
 | succ g ih =>
   intro out out' a a' h;obtain ⟨⟨sym,a1⟩,h1,h2⟩:=yr h;have e1:=jB h1;unfold qv at h2;simp only at h2;split at h2
   · cases h2; omega
   · split at h2
     · split at h2
       · have:=ih h2; omega
       · cases h2
     · obtain ⟨⟨o,a2⟩,h3,h4⟩:=yr h2;have e2:=Vo h3;have:=ih h4;simp only at this;omega
theorem zcc {s:ByteArray} {sym:Nat} {L:List Nat} {a a':Nat} {r:Nat×Nat} (h:xj s sym L a = .ok (r,a')):a≤a':=by
 unfold xj at h;split at h
 · split at h
   · cases h
   · obtain ⟨q,h1,h2⟩:=Ww h; have:=yL h1; cases h2; exact this
 · split at h
   · obtain ⟨q,h1,h2⟩:=Ww h; have:=yL h1; cases h2; exact this
   · obtain ⟨q,h1,h2⟩:=Ww h; have:=yL h1; cases h2; exact this
theorem zgL {s:ByteArray} {k:Nat} {L:List Nat} {a a':Nat} {r:Nat×Nat} (h:xV s k L a = .ok (r,a')):a≤a':=by
 unfold xV at h;split at h
 · exact zcc h
 · cases h; omega
theorem zg1 {l:List Int} {s:ByteArray} {many:Nat} : ∀ (f:Nat) {L L':List Nat} {a a':Nat},qq l s many f L a = .ok (L',a')→a≤a':=by
 intro f
 induction f with
 | zero=>intro L L' a a' h; cases h; omega
 | succ f ih =>
   intro L L' a a' h;simp only [qq] at h;split at h
   · split at h
     · cases h
     · rename_i r hr;have e1:=jB (x:=r.1) (a':=r.2) hr;split at h
       · cases h
       · rename_i q hq;have e2:=zgL (r:=q.1) (a':=q.2) hq;split at h
         · have:=ih h; omega
         · cases h
   · cases h; omega
theorem zci {s:ByteArray} : ∀ (m:Nat) {i:Nat} {L L':List Nat} {a a':Nat},xt s m i L a = .ok (L',a')→a≤a':=by
 intro m
 induction m with
 | zero=>intro i L L' a a' h; cases h; omega
 | succ m ih =>
   intro i L L' a a' h;simp only [xt] at h;split at h
   · cases h
   · rename_i r hr;have e1:=yL (v:=r.1) (a':=r.2) hr;have:=ih h;omega
theorem jE {s:ByteArray} {a a':Nat} {A B:List Nat} (h:yY s a = .ok ((A,B),a')):a≤a'∧A.length≤286∧B.length≤30 ∧ ∀ x∈A++B,x≤15:=by
 obtain ⟨⟨n,a1⟩,h1,h⟩:=yr h;obtain ⟨⟨m,a2⟩,h2,h⟩:=yr h;obtain ⟨⟨k,a3⟩,h3,h⟩:=yr h;have e1:=yL h1;have e2:=yL h2;have e3:=yL h3;simp only at e2 e3 h;unfold xB at h;split at h
 · rename_i hnm;obtain ⟨⟨L,a4⟩,h4,h⟩:=yr h;have e4:=zci _ h4;unfold qD at h;split at h
   · obtain ⟨⟨L',a5⟩,h5,h⟩:=yr h;have e5:=zg1 _ h5;obtain ⟨hl,h15⟩:=zdS _ _ _ _ _ (by simp) (by simp) (by simp) h5;unfold kj at h;split at h
     · split at h
       · cases h;dsimp only at *;refine ⟨by omega,by rw [List.length_take]; omega,by rw [List.length_drop]; omega,?_⟩;rw [List.take_append_drop]; exact h15
       · cases h
     · cases h
   · cases h
 · cases h
theorem Ka {s:ByteArray} {most F k:Nat} {out out':List Nat} {a a':Nat} (h:qx s most F out (k,a) = .ok (out',a')):a≤a':=by
 unfold qx at h;split at h
 · exact zb7 h
 · split at h
   · exact VH _ h
   · split at h
     · obtain ⟨⟨⟨A,B⟩,a1⟩,h1,h2⟩:=yr h;have:=(jE h1).1;have:=VH _ (show yT (ints A) (ints B) s most F out a1 = .ok (out',a') from h2);simp only at *;omega
     · cases h
theorem Qk {s:ByteArray} {a n v a':Nat} (h:zu s a n = .ok (v,a')):a'=a+n:=by
 unfold zu at h;split at h
 · cases h; rfl
 · cases h
theorem zb9 {s:ByteArray} {most F:Nat} {out out':List Nat} {a a':Nat} {l:Bool} (h:km s most F out a = .ok ((l,out'),a')):a<a':=by
 obtain ⟨⟨v,a1⟩,h1,h⟩:=yr h;obtain ⟨⟨o,a3⟩,h2,h3⟩:=yr h;obtain ⟨⟨k,a2⟩,h4,h5⟩:=yr h2;have e1:=Qk h1;have e2:=Qk h4;have e3:=Ka h5;unfold JA at h3;cases h3;simp only at e2 e3 ⊢;omega
def ze4 (w:World) (x b:Nat) (v:Value) (s:ByteArray) (most:Nat) (r:Except Nat ((Bool×List Nat)×Nat)) (e:Ending) (w':World):Prop :=
 match r with
 | .ok ((l,out),a')=>e = .returned (.bool l) ∧ ∃ v',StAt w' x b v' s a' out most∧Upd (yV x b v) w w'∧Later w v v'
 | .error c=>e = .panicked [{ v := .iface 29 (.int .i64 (c:Nat)),recovered:=false }]∧Upd (yV x b v) w w'
theorem qB:Qd.length=288∧Ze.length=32:=by
 have hL4:(yG 4).length=288:=by
  unfold yG qk;simp only [List.take_succ_cons,List.take_nil,List.flatMap_cons,List.flatMap_nil,List.length_append,List.length_replicate,List.length_nil]
 exact ⟨by unfold Qd; rw [zr,hL4],by unfold Ze; rw [zr]; simp⟩
theorem zdw (x:Nat) (h:x∈yG 4):x≤9:=by
 unfold yG qk at h;simp only [List.take_succ_cons,List.take_nil,List.flatMap_cons,List.flatMap_nil,List.mem_append,List.mem_replicate,List.not_mem_nil,or_false] at h;omega
theorem zhT (w:World):Calls Tryz.prog 231 #[] w fun e w' => ∃ a1 c1 a2,e = .returned (.tuple #[.slice a1 288 c1,.slice a2 32 32])∧IntsIn w' a1 288 Qd∧IntsIn w' a2 32 Ze∧Upd [] w w':=by
 refine (QE w).mono ?_;rintro e w' ⟨g1,c1,g2,rfl,hR1,hR2,hU,_,_⟩;refine ⟨_,c1,_,rfl,?_,?_,hU⟩
 · have h:=IntsIn.of_row hR1 (fun x hx=>Nat.le_trans (zdw x hx) (by omega));have e:=qB.1;unfold Qd ints at e ⊢;rw [e] at h;exact h
 · have h:=IntsIn.of_row hR2 (fun x hx=>by rw [(List.mem_replicate.1 hx).2]; omega);have e:=qB.2;unfold Ze ints at e ⊢;rw [e] at h;exact h
theorem zaA {w0 w w':World} {x b:Nat} {v0 v:Value} (h1:Upd (yV x b v0) w0 w) (h2:Later w0 v0 v) (hU:Upd (yV x b v) w w'):Upd (yV x b v0) w0 w' :=
 h1.trans hU (fun k hk=>by
  simp only [yV,List.mem_cons] at hk ⊢;rcases hk with hk | hk | hk
  · exact .inl (.inl hk)
  · exact .inl (.inr (.inl hk))
  · exact (h2.fp k hk).imp (fun h => .inr (.inr h)) id)
theorem zfP {b:Nat} {w:World} {s:ByteArray} {a a':Nat} {A B:List Nat} (hR:RdAt w b 292 s a false) (hs:s.size≤1099511627776) (h:yY s a = .ok ((A,B),a')) :
 Calls Tryz.prog 233 #[.agg #[.pointer (some ⟨b,0,none⟩)]] w fun e w' => ∃ g cap,e = .returned (.tuple #[.slice (some ⟨g,0,none⟩) A.length cap,.slice (some ⟨g,A.length,none⟩) B.length (cap-A.length)]) ∧
  IntsIn w' (some ⟨g,0,none⟩) A.length (ints A)∧IntsIn w' (some ⟨g,A.length,none⟩) B.length (ints B)∧RdAt w' b 292 s a' false∧Upd [b] w w'∧w.heap.size≤g:=by
 have h1:=Yi b w s a hR hs;rw [h] at h1;refine h1.mono ?_;rintro e w' ⟨g,n,cap,rfl,rfl,hRow,hR',hU,hg⟩;have h15 : ∀ x∈A++B,x≤1099511627776:=fun x hx=>Nat.le_trans ((jE h).2.2.2 x hx) (by omega);refine ⟨g,cap,rfl,?_,?_,hR',hU,hg⟩
 · have:=IntsIn.part hRow h15 0 A.length (by simp);rw [List.drop_zero,List.take_left' rfl,zr] at this;exact this
 · have:=IntsIn.part hRow h15 A.length B.length (by simp);rw [List.drop_left' rfl,List.take_of_length_le (Nat.le_refl _),zr] at this;exact this
theorem zcI {b:Nat} {w:World} {s:ByteArray} {a c:Nat} (hR:RdAt w b 292 s a false) (hs:s.size≤1099511627776) (h:yY s a = .error c) :
 Calls Tryz.prog 233 #[.agg #[.pointer (some ⟨b,0,none⟩)]] w fun e w'=>e = .panicked [{ v := .iface 29 (.int .i64 (c:Nat)),recovered:=false }]∧Upd [b] w w':=by
 have h1:=Yi b w s a hR hs;rwa [h] at h1
theorem zgy {x b:Nat} {v:Value} {w:World} {s:ByteArray} {a:Nat} {out:List Nat} {most:Nat} {out':List Nat} {a':Nat} (h:StAt w x b v s a out most) (hs:s.size≤1099511627776) (hc:jj s most out a = .ok (out',a')) :
 Calls Tryz.prog 230 #[.pointer (some ⟨x,0,none⟩)] w fun e w'=>e = .returned (.tuple #[]) ∧ ∃ v',StAt w' x b v' s a' out' most∧Upd (yV x b v) w w'∧Later w v v':=by
 have:=Km x b v w s a out most h hs;rwa [hc] at this
theorem zfG {x b:Nat} {v:Value} {w:World} {s:ByteArray} {a:Nat} {out:List Nat} {most c:Nat} (h:StAt w x b v s a out most) (hs:s.size≤1099511627776) (hc:jj s most out a = .error c) :
 Calls Tryz.prog 230 #[.pointer (some ⟨x,0,none⟩)] w fun e w'=>e = .panicked [{ v := .iface 29 (.int .i64 (c:Nat)),recovered:=false }]∧Upd (yV x b v) w w':=by
 have:=Km x b v w s a out most h hs;rwa [hc] at this
theorem XR {x b F:Nat} {a1 a2:Option Addr} {n1 c1 n2 c2:Nat} {v:Value} {l1 l2:List Int} {w:World} {s:ByteArray} {a:Nat} {out:List Nat} {most:Nat} {out':List Nat} {a':Nat} (h:StAt w x b v s a out most) (hs:s.size≤1099511627776)
 (hI1:IntsIn w a1 n1 l1) (hI2:IntsIn w a2 n2 l2) (hl1:l1.length≤300) (hl2:l2.length≤300) (hF:8*s.size<F+a) (hc:yT l1 l2 s most F out a = .ok (out',a')) :
 Calls Tryz.prog 232 #[.pointer (some ⟨x,0,none⟩),.slice a1 n1 c1,.slice a2 n2 c2] w fun e w'=>e = .returned (.tuple #[]) ∧ ∃ v',StAt w' x b v' s a' out' most∧Upd (yV x b v) w w'∧Later w v v':=by
 have:=ZO x b F a1 a2 n1 c1 n2 c2 v l1 l2 w s a out most h hs hI1 hI2 hl1 hl2 hF;rwa [hc] at this
theorem ZS {x b F:Nat} {a1 a2:Option Addr} {n1 c1 n2 c2:Nat} {v:Value} {l1 l2:List Int} {w:World} {s:ByteArray} {a:Nat} {out:List Nat} {most c:Nat} (h:StAt w x b v s a out most) (hs:s.size≤1099511627776)
 (hI1:IntsIn w a1 n1 l1) (hI2:IntsIn w a2 n2 l2) (hl1:l1.length≤300) (hl2:l2.length≤300) (hF:8*s.size<F+a) (hc:yT l1 l2 s most F out a = .error c) :
 Calls Tryz.prog 232 #[.pointer (some ⟨x,0,none⟩),.slice a1 n1 c1,.slice a2 n2 c2] w fun e w'=>e = .panicked [{ v := .iface 29 (.int .i64 (c:Nat)),recovered:=false }]∧Upd (yV x b v) w w':=by
 have:=ZO x b F a1 a2 n1 c1 n2 c2 v l1 l2 w s a out most h hs hI1 hI2 hl1 hl2 hF;rwa [hc] at this
theorem VC (x b F:Nat) (v:Value) (w:World) (s:ByteArray) (a:Nat) (out:List Nat) (most:Nat) (h:StAt w x b v s a out most) (hs:s.size≤1099511627776) (hF:8*s.size<F) :
 Calls Tryz.prog 176 #[.pointer (some ⟨x,0,none⟩)] w (ze4 w x b v s most (km s most F out a)):=by
 have HS:=Hi (show km s most F out a=(zu s a 1 >>= fun r=>(zu s r.2 2 >>= qx s most F out) >>= JA r.1) by rfl);generalize km s most F out a=CP at *;have c0:=h.blk.cell 0 rfl;go_enter Tryz.func176,Tryz.ntmps176;rcases zK s a 1 with ⟨l,hl,hla,htk⟩ | htk
 · have HE:=Hi (show CP=((zu s (a+1) 2 >>= qx s most F out) >>= JA l) by rw [HS.out,htk]; rfl);clear HS;go_wp2_with fail
   refine (yW h.rd hs (by omega) htk).mono ?_;rintro e w1 ⟨rfl,hR1,hU1⟩;have h1:=h.read hU1 hR1;have hUw1:=yp (v:=v) (x:=x) hU1;have c1:=h1.blk.cell 0 rfl;obtain ⟨bl,hbl⟩ : ∃ bl,bl=(l==1):=⟨_,rfl⟩;have hb1:((l:Int)==1)=bl:=(by rw [hbl]; rcases l with _ | _ | l<;>first | rfl | omega);have HBL:=Hi hbl;clear hbl hR1 hU1 htk c0;rcases zK s (a+1) 2 with ⟨k,hk,hka,htk⟩ | htk
   · have hE:CP=(qx s most F out (k,a+1+2) >>= JA l):=(by rw [HE.out,htk]; rfl);have HE:=Hi hE;clear hE;have hF1:8*s.size<F+(a+1+2):=(by omega);have hT0:=Later.refl w v;rcases k with _ | _ | _ | k
     · (go_wp2_with fail);refine (yW h1.rd hs (by omega) htk).mono ?_;rintro e w2 ⟨rfl,hR2,hU2⟩;have h2:=h1.read hU2 hR2;have hUw2:=hUw1.then (yp (v:=v) (x:=x) hU2);have hE:CP=(jj s most out (a+1+2) >>= JA l):=HE.out;cases hst:jj s most out (a+1+2) with
       | error c =>
         have HE:=Hi (show CP = .error c by rw [hE,hst]; rfl);clear hE;(go_wp2_with fail);refine (zfG h2 hs hst).mono ?_;rintro e w3 ⟨rfl,hU3⟩;go_wp2;rw [HE.out];exact ⟨rfl,rfl,hUw2.then hU3⟩
       | ok q =>
         obtain ⟨o,a5⟩:=q;have HE:=Hi (show CP = .ok ((bl,o),a5) by rw [hE,hst,HBL.out]; rfl);clear hE;(go_wp2_with fail);refine (zgy h2 hs hst).mono ?_;rintro e w3 ⟨rfl,v3,hS3,hU3,hT3⟩;go_wp2;go_returns;rw [HE.out];exact ⟨rfl,v3,hS3,hUw2.then hU3,hT0.trans hUw2.size hT3⟩
     · (go_wp2_with fail);refine (yW h1.rd hs (by omega) htk).mono ?_;rintro e w2 ⟨rfl,hR2,hU2⟩;have h2:=h1.read hU2 hR2;have hUw2:=hUw1.then (yp (v:=v) (x:=x) hU2);have hE:CP=(yT Qd Ze s most F out (a+1+2) >>= JA l):=HE.out;(go_wp2_with fail);refine (zhT w2).mono ?_;rintro e w3 ⟨p1,c1',p2,rfl,hI1,hI2,hU3⟩;have h3:=h2.pure hU3;have hUw3:=hUw2.then (vk (v:=v) (x:=x) (b:=b) hU3);have hfl:=qB;cases hst:yT Qd Ze s most F out (a+1+2) with
       | error c =>
         have HE:=Hi (show CP = .error c by rw [hE,hst]; rfl);clear hE;(go_wp2_with fail);refine (ZS h3 hs hI1 hI2 (by omega) (by omega) hF1 hst).mono ?_;rintro e w4 ⟨rfl,hU4⟩;go_wp2;rw [HE.out];exact ⟨rfl,rfl,hUw3.then hU4⟩
       | ok q =>
         obtain ⟨o,a5⟩:=q;have HE:=Hi (show CP = .ok ((bl,o),a5) by rw [hE,hst,HBL.out]; rfl);clear hE;(go_wp2_with fail);refine (XR h3 hs hI1 hI2 (by omega) (by omega) hF1 hst).mono ?_;rintro e w4 ⟨rfl,v4,hS4,hU4,hT4⟩;go_wp2;go_returns;rw [HE.out];exact ⟨rfl,v4,hS4,hUw3.then hU4,hT0.trans hUw3.size hT4⟩
     · (go_wp2_with fail);refine (yW h1.rd hs (by omega) htk).mono ?_;rintro e w2 ⟨rfl,hR2,hU2⟩;have h2:=h1.read hU2 hR2;have c2:=h2.blk.cell 0 rfl;have hUw2:=hUw1.then (yp (v:=v) (x:=x) hU2);have hE:CP=((yY s (a+1+2) >>= KT s most F out) >>= JA l):=HE.out;cases htb:yY s (a+1+2) with
       | error c =>
         have HE:=Hi (show CP = .error c by rw [hE,htb]; rfl);clear hE;(go_wp2_with fail);refine (zcI h2.rd hs htb).mono ?_;rintro e w3 ⟨rfl,hU3⟩;go_wp2;rw [HE.out];exact ⟨rfl,rfl,hUw2.then (yp hU3)⟩
       | ok q =>
         obtain ⟨⟨A,B⟩,a4⟩:=q;have hE2:CP=(yT (ints A) (ints B) s most F out a4 >>= JA l):=(by rw [hE,htb]; rfl);obtain ⟨hadv,hAl,hBl,_⟩:=jE htb;have HE:=Hi hE2;clear hE hE2;(go_wp2_with fail);refine (zfP h2.rd hs htb).mono ?_;rintro e w3 ⟨g,cap,rfl,hI1,hI2,hR3,hU3,hg⟩;have h3:=h2.read hU3 hR3;have hUw3:=hUw2.then (yp (v:=v) (x:=x) hU3);have hl1:=zr A;have hl2:=zr B;cases hst:yT (ints A) (ints B) s most F out a4 with
         | error c =>
           have HE:=Hi (show CP = .error c by rw [HE.out,hst]; rfl);(go_wp2_with fail);refine (ZS h3 hs hI1 hI2 (by omega) (by omega) (by omega) hst).mono ?_;rintro e w4 ⟨rfl,hU4⟩;go_wp2;rw [HE.out];exact ⟨rfl,rfl,hUw3.then hU4⟩
         | ok q =>
           obtain ⟨o,a5⟩:=q;have HE:=Hi (show CP = .ok ((bl,o),a5) by rw [HE.out,hst,HBL.out]; rfl);(go_wp2_with fail);refine (XR h3 hs hI1 hI2 (by omega) (by omega) (by omega) hst).mono ?_;rintro e w4 ⟨rfl,v4,hS4,hU4,hT4⟩;go_wp2;go_returns;rw [HE.out];exact ⟨rfl,v4,hS4,hUw3.then hU4,hT0.trans hUw3.size hT4⟩
     · have HE:=Hi (show CP = .error 2 by rw [HE.out]; rfl);have hk0:k=0:=(by omega);subst hk0;(go_wp2_with fail);refine (yW h1.rd hs (by omega) htk).mono ?_;rintro e w2 ⟨rfl,hR2,hU2⟩;(go_wp2_with fail);refine (xa _).mono ?_;rintro e w3 ⟨rfl,rfl⟩;go_wp2;rw [HE.out];exact ⟨rfl,rfl,hUw1.then (yp hU2)⟩
   · have HE:=Hi (show CP = .error 3 by rw [HE.out,htk]; rfl);(go_wp2_with fail);refine (xk h1.rd hs (by omega) htk).mono ?_;rintro e w2 ⟨rfl,hU2⟩;go_wp2;rw [HE.out];exact ⟨rfl,rfl,hUw1.then (yp hU2)⟩
 · have HE:=Hi (show CP = .error 3 by rw [HS.out,htk]; rfl);go_wp2_with fail
   refine (xk h.rd hs (by omega) htk).mono ?_;rintro e w1 ⟨rfl,hU1⟩;go_wp2;rw [HE.out];exact ⟨rfl,rfl,yp hU1⟩
theorem KQ (v:Value) (xT:TypeId) (w:World):(Instr.typeAssert (.iface 29 v) xT 29 true).run Tryz.prog w = .ok (.tuple #[v,.bool true]) w:=by
 simp [Instr.typeAssert,run_underlying Tryz.underlying29,go_sem,Result.andThen]
theorem QN (p:Addr) (x:Value) (c:Int) (older:List PanicEntry) (w:World) (hx:w.cell? p=some x) (hz:w.frozen? p=false) :
 CallsD Tryz.prog 174 #[.pointer (some p)] (.panicking ({ v := .iface 29 (.int .i64 c),recovered:=false }::older)) w fun e u' w' =>
  e = .returned (.tuple #[])∧u' = .panicking ({ v := .iface 29 (.int .i64 c),recovered:=true }::older)∧w'=w.setCell p (.int .i64 c):=by
 have hta:=KQ (.int .i64 c) 20;refine callsD_of_wpS Tryz.func174 rfl fun c₀ cs hu=>?_;apply wpS_seq;apply wpS_region;simp [wpOpsS,go_sem,recoverD,hu,Tryz.ntmps174,Exit.thenS];refine wpS_of_wp ?_;go_wp2;simp [bodyPostS,results,Tryz.results174]
theorem zbo (p:Addr) (w:World) :
 CallsD Tryz.prog 174 #[.pointer (some p)] .returning w fun e u' w'=>e = .returned (.tuple #[])∧u' = .returning∧w'=w:=by
 refine callsD_of_wpS Tryz.func174 rfl fun c₀ cs hu=>?_;apply wpS_seq;apply wpS_region;simp [wpOpsS,go_sem,recoverD,hu,Tryz.ntmps174,Exit.thenS];refine wpS_of_wp ?_;go_wp2;cases c₀
 simp_all [bodyPostS,results,Tryz.results174]
end Go.Proofs.YtfkenhihcmmgkaaGreatDoor
