/- SearchPhrases: where a phrase stands, each of its words stands at its place. -/
import Derived.Laws.IdiomStrings
import Derived.Lib.TrimUEq
import Derived.Lib.Strings
import Derived.Test.YtccplipiahdhiaaGreatDoorProg
import Derived.Test.YtccplipiahdhiaaGreatDoorSp1
namespace Go.Proofs.YtccplipiahdhiaaGreatDoor
open Go.RowKit
def lenR (r:Nat):Nat:=if r < 128 then 1 else if r < 2048 then 2 else if r < 65536 then 3 else 4
def strN (ns:List Int):ByteArray:=ns.foldl (fun r n=>r.push (UInt8.ofNat n.toNat)) ByteArray.empty
theorem strN_size (ns:List Int):(strN ns).size=ns.length:=by
 have:∀(ns:List Int) (s:ByteArray),(ns.foldl (fun r n=>r.push (UInt8.ofNat n.toNat)) s).size=s.size+ns.length:=by
  intro ns
  induction ns with
  | nil=>intro s;simp
  | cons n r ih=>intro s;rw [List.foldl_cons,ih,ByteArray.size_push,List.length_cons];omega
 unfold strN;rw [this];simp
theorem conv_lit (w:World) (ns:List Int) (n:Nat) (hn:n=ns.length) (cs:Array Value) (hcs:cs=(ns.map (Value.int .u8)).toArray) :
  (convert 175 9 (.slice (some ⟨w.heap.size,0,none⟩) n n)).run Tryz.prog (w.alloc (.cells cs 5))=.ok (.string (strN ns)) (w.alloc (.cells cs 5)):=by
 subst hn hcs
 rw [run_convert_bytes_string _ _ _ _ _ _ _ Tryz.underlying175 Tryz.underlying5 Tryz.underlying9]
 have hl:=run_loadCells_list (P:=Tryz.prog) (w.alloc (.cells (ns.map (Value.int .u8)).toArray 5)) ⟨w.heap.size,0,none⟩ (ns.map (Value.int .u8)) (fun j v hj=>by
  have:(Addr.add ⟨w.heap.size,0,none⟩ j)=⟨w.heap.size,j,none⟩:=by rw [Addr.add_lit];simp
  rw [this,blk_cell (blk_new _ _)]
  simpa using hj)
 simp only [List.length_map] at hl
 exact run_bytesToString _ _ _ _ _ hl
set_option maxHeartbeats 4000000
set_option maxRecDepth 100000
theorem bytes1 (r:Nat) (hr:r < 128) (w:World):Calls Tryz.prog 191 #[.int .i64 r] w fun e w'=>(∃s:ByteArray,e=.returned (.string s)∧s.size=1)∧Below w.heap.size w w':=by
 have h0:(r:Int) < 128:=by omega
 have k1:=fun x=>conv_lit w [x] 1 rfl #[.int .u8 x] rfl
 go_enter Tryz.func191,Tryz.ntmps191
 go_wp2
 all_goals go_ret
 all_goals exact⟨⟨_,rfl,strN_size _⟩,bl1 (Below.refl _ _) _⟩
theorem bytes2 (r:Nat) (hr:128≤r∧r < 2048) (w:World):Calls Tryz.prog 191 #[.int .i64 r] w fun e w'=>(∃s:ByteArray,e=.returned (.string s)∧s.size=2)∧Below w.heap.size w w':=by
 have h0:¬(r:Int) < 128:=by omega
 have h1:(r:Int) < 2048:=by omega
 have k1:=fun x y=>conv_lit w [x,y] 2 rfl #[.int .u8 x,.int .u8 y] rfl
 go_enter Tryz.func191,Tryz.ntmps191
 go_wp2
 all_goals go_ret
 all_goals exact⟨⟨_,rfl,strN_size _⟩,bl1 (Below.refl _ _) _⟩
theorem bytes3 (r:Nat) (hr:2048≤r∧r < 65536) (w:World):Calls Tryz.prog 191 #[.int .i64 r] w fun e w'=>(∃s:ByteArray,e=.returned (.string s)∧s.size=3)∧Below w.heap.size w w':=by
 have h0:¬(r:Int) < 128:=by omega
 have h1:¬(r:Int) < 2048:=by omega
 have h2:(r:Int) < 65536:=by omega
 have k1:=fun x y z=>conv_lit w [x,y,z] 3 rfl #[.int .u8 x,.int .u8 y,.int .u8 z] rfl
 go_enter Tryz.func191,Tryz.ntmps191
 go_wp2
 all_goals go_ret
 all_goals exact⟨⟨_,rfl,strN_size _⟩,bl1 (Below.refl _ _) _⟩
theorem bytes4 (r:Nat) (hr:65536≤r∧r < 2097152) (w:World):Calls Tryz.prog 191 #[.int .i64 r] w fun e w'=>(∃s:ByteArray,e=.returned (.string s)∧s.size=4)∧Below w.heap.size w w':=by
 have h0:¬(r:Int) < 128:=by omega
 have h1:¬(r:Int) < 2048:=by omega
 have h2:¬(r:Int) < 65536:=by omega
 have k1:=fun x y z t=>conv_lit w [x,y,z,t] 4 rfl #[.int .u8 x,.int .u8 y,.int .u8 z,.int .u8 t] rfl
 go_enter Tryz.func191,Tryz.ntmps191
 go_wp2
 all_goals go_ret
 all_goals exact⟨⟨_,rfl,strN_size _⟩,bl1 (Below.refl _ _) _⟩
theorem bytes_calls (r:Nat) (hr:r < 2097152) (w:World):Calls Tryz.prog 191 #[.int .i64 r] w fun e w'=>(∃s:ByteArray,e=.returned (.string s)∧s.size=lenR r)∧Below w.heap.size w w':=by
 unfold lenR
 split
 ·exact bytes1 r (by omega) w
 ·split
  ·exact bytes2 r (by omega) w
  ·split
   ·exact bytes3 r (by omega) w
   ·exact bytes4 r (by omega) w
def contR (s:ByteArray) (i:Nat):Nat→Nat→Nat→Option Nat
 | 0,_,r=>some r
 | k+1,j,r=>if (s.get! (i+j)).toNat < 128∨192≤(s.get! (i+j)).toNat then none else contR s i k (j+1) (64*r+(s.get! (i+j)).toNat-128)
def atR (s:ByteArray) (i:Nat):Nat × Nat :=
 if (sizeR (s.get! i).toNat).1=0∨s.size < i+(sizeR (s.get! i).toNat).1 then (0,0)
 else match contR s i ((sizeR (s.get! i).toNat).1-1) 1 (sizeR (s.get! i).toNat).2 with
  | none=>(0,0)
  | some r=>if canR r=true∧lenR r=(sizeR (s.get! i).toNat).1 then (r,(sizeR (s.get! i).toNat).1) else (0,0)
def bndR (j:Nat):Nat:=if j≤1 then 128 else if j=2 then 8192 else if j=3 then 524288 else 33554432
theorem bndR_le (j : Nat) : bndR j ≤ 33554432 := by unfold bndR; repeat' split
                                                    all_goals omega
theorem bndR_step {j r c:Nat} (h:r < bndR j) (h1:1≤j) (h2:j < 4) (hc:c < 192):64*r+c-128 < bndR (j+1):=by
 unfold bndR at *
 have:j=1∨j=2∨j=3:=by omega
 rcases this with rfl | rfl | rfl <;> simp at*<;> omega
theorem sizeR_lt (c:Nat):(sizeR c).1≤4∧(sizeR c).2 < 128:=by
 unfold sizeR
 repeat' split
 all_goals simp only
 all_goals omega
theorem atR_eq (s:ByteArray) (i n r0:Nat) (hn:(sizeR (s.get! i).toNat).1=n) (hr:(sizeR (s.get! i).toNat).2=r0):atR s i=if n=0∨s.size < i+n then (0,0)
 else match contR s i (n-1) 1 r0 with
  | none=>(0,0)
  | some r=>if canR r=true∧lenR r=n then (r,n) else (0,0):=by
 unfold atR
 rw [hn,hr]
 all_goals rfl
theorem ret2n {a b:Nat}{x:Nat × Nat} (h:x=(a,b)):Ending.returned (.tuple #[.int .i64 (a:Int),.int .i64 (b:Int)])=Ending.returned (.tuple #[.int .i64 (x.1:Int),.int .i64 (x.2:Int)]):=by rw [h]
set_option maxHeartbeats 4000000
set_option maxRecDepth 100000
theorem at_calls (s:ByteArray) (i:Nat) (hi:i < s.size) (hs:s.size≤140737488355328) (w:World):Calls Tryz.prog 164 #[.string s,.int .i64 i] w fun e w'=>e=.returned (.tuple #[.int .i64 (atR s i).1,.int .i64 (atR s i).2])∧Below w.heap.size w w':=by
 have hi0:(i:Int) < (s.size:Int):=by omega
 obtain⟨c,hc⟩:∃c,s.get! i=c:=⟨_,rfl⟩
 have hs0:s[i]'hi=c:=by rw [←hc];exact (Utf8W.get!_of_lt s i hi).symm
 have hcz:c.toNat < 256:=c.toNat_lt
 obtain⟨n,hn⟩:∃n,(sizeR c.toNat).1=n:=⟨_,rfl⟩
 obtain⟨r0,hr⟩:∃r0,(sizeR c.toNat).2=r0:=⟨_,rfl⟩
 have hl:=sizeR_lt c.toNat
 rw [hn,hr] at hl
 obtain⟨hn4,hr128⟩:=hl
 have HA:=Lib.hid (atR_eq s i n r0 (by rw [hc];exact hn) (by rw [hc];exact hr))
 have cS:=size_calls c.toNat hcz
 simp only [hn,hr] at cS
 have hw:wrap64 ((i:Int)+n)=i+n:=IntWalk.wrap64_in _ (by omega)
 clear hc hn hr
 by_cases hn0:n=0∨s.size < i+n
 ·have hA:atR s i=(0,0):=by rw [HA.out,if_pos hn0]
  have HA:=Lib.hid hA
  clear hA
  go_enter Tryz.func164,Tryz.ntmps164
  by_cases hn1:n=0
  ·subst hn1
   clear hw hn0
   go_wp2_with (go_at_call 189;(with_reducible refine (cS _).mono ?_);rintro e w1 ⟨rfl,rfl⟩)
   all_goals go_ret2
   all_goals exact⟨ret2n HA.out,Below.refl _ _⟩
  ·have hn2:¬(n:Int)=0:=by omega
   have hn3:(s.size:Int) < i+n:=by omega
   clear hn0
   go_wp2_with (go_at_call 189;(with_reducible refine (cS _).mono ?_);rintro e w1 ⟨rfl,rfl⟩)
   all_goals go_ret2
   all_goals exact⟨ret2n HA.out,Below.refl _ _⟩
 ·have hA:atR s i=(match contR s i (n-1) 1 r0 with | none=>(0,0) | some r=>if canR r=true∧lenR r=n then (r,n) else (0,0)):=by rw [HA.out,if_neg hn0]
  have HA:=Lib.hid hA
  clear hA
  have hn1:¬(n:Int)=0:=by omega
  have hn7:((n:Int) == 0)=false:=by simpa using hn1
  have hn8:decide ((s.size:Int) < i+n)=false:=by simp;omega
  have hn5:i+n≤s.size:=by omega
  have hn6:1≤n:=by omega
  clear hn0
  go_enter Tryz.func164,Tryz.ntmps164
  go_wp2_with (go_at_call 189;(with_reducible refine (cS _).mono ?_);rintro e w1 ⟨rfl,rfl⟩)
  go_loopw [7,8] (fun v z wr=>∃(j r:Nat),1≤j∧j≤n∧v=.int .i64 r∧z=.int .i64 j∧r < bndR j∧wr=w1∧Hid (contR s i (n-1) 1 r0=contR s i (n-j) j r)) (fun v z wr=>n-(intOf z).toNat)
  case atStart=>exact⟨1,r0,by omega,hn6,rfl,rfl,by simpa [bndR] using hr128,rfl,Lib.hid rfl⟩
  case round =>
   obtain⟨j,r,hj1,hj2,rfl,rfl,hb,rfl,HC⟩:=hrel
   by_cases hlt:j < n
   ·have hq:(j:Int) < n:=by omega
    obtain⟨d,hd⟩:∃d,s.get! (i+j)=d:=⟨_,rfl⟩
    have hk1:i+j < s.size:=by omega
    have hs1:s[i+j]'hk1=d:=by rw [←hd];exact (Utf8W.get!_of_lt s (i+j) (by omega)).symm
    have hw1:wrap64 ((i:Int)+j)=((i+j:Nat):Int):=by rw [IntWalk.wrap64_in _ (by omega)];omega
    have hq1:((i+j:Nat):Int) < (s.size:Int):=by omega
    have hrb:(r:Int) < 33554432:=by have hbl:=bndR_le j;omega
    have HB:=Lib.hid hb
    have HL:=Lib.hid hlt
    clear hb hj2 hlt hn1
    by_cases hbad:d.toNat < 128∨192≤d.toNat
    ·have hA0:atR s i=(0,0):=by
      rw [HA.out,HC.out,show n-j=(n-j-1)+1 by have:=HL.out;omega,contR,hd,if_pos hbad]
     have HA:=Lib.hid hA0
     clear hA0 hrb HC hj1 hd
     by_cases hb1:d.toNat < 128
     ·have hb2:(d.toNat:Int) < 128:=by omega
      clear hbad
      go_wp2
      all_goals go_ret2
      all_goals exact⟨ret2n HA.out,Below.refl _ _⟩
     ·have hb2:(192:Int)≤d.toNat:=by omega
      have hb3:¬(d.toNat:Int) < 128:=by omega
      clear hbad
      go_wp2
      all_goals go_ret2
      all_goals exact⟨ret2n HA.out,Below.refl _ _⟩
    ·have hC1:contR s i (n-1) 1 r0=contR s i (n-(j+1)) (j+1) (64*r+d.toNat-128):=by
      rw [HC.out,show n-j=(n-(j+1))+1 by have:=HL.out;omega,contR,hd,if_neg hbad]
     have HC:=Lib.hid hC1
     clear hC1
     have hst0:=bndR_step (c:=d.toNat) HB.out hj1 (by have:=HL.out;omega) (by omega)
     have hst:=Lib.hid hst0
     have hj3:j+1≤n:=by have:=HL.out;omega
     have hb3:¬(d.toNat:Int) < 128:=by omega
     have hb4:decide ((192:Int)≤d.toNat)=false:=by simp;omega
     have hd1:128≤d.toNat:=by omega
     have hd2:d.toNat < 192:=by omega
     have HJ:=Lib.hid (And.intro hj3 (And.intro hd1 (And.intro hd2 (And.intro hj1 hrb))))
     clear hbad hst0 hd HB hj3 hd1 hd2 hrb hj1
     go_wp2
     obtain⟨hj3,hd1,hd2,hj1,hrb⟩:=HJ.out
     refine⟨⟨j+1,64*r+d.toNat-128,by omega,hj3,?_,?_,hst.out,by trivial,HC⟩,?_⟩
     ·rw [IntWalk.wrap64_in (64*(r:Int)) (by omega),IntWalk.wrap64_in (d.toNat:Int) (by omega),IntWalk.wrap64_in (64*(r:Int)+d.toNat) (by omega),IntWalk.wrap64_in _ (by omega)];congr 1;omega
     ·congr 1
     ·simp only [intOf];omega
   ·have hjn:j=n:=by omega
    subst hjn
    have hq:¬(j:Int) < j:=by omega
    have hA1:atR s i=if canR r=true∧lenR r=j then (r,j) else (0,0):=by
     rw [HA.out,HC.out,Nat.sub_self];rfl
    have HA:=Lib.hid hA1
    clear hA1 HC
    by_cases hcan:canR r=true
    ·have hr4:r < 2097152:=by
      simp [canR] at hcan;omega
     go_wp2_with (first
      | (go_at_call 190;(with_reducible refine (char_calls r _).mono ?_);rintro e w2 ⟨rfl,rfl⟩)
      | (go_at_call 191;(with_reducible refine (bytes_calls r hr4 _).mono ?_);rintro e w2 ⟨⟨sb,rfl,hsb⟩,hbb⟩))
     ·go_ret2
      exact⟨ret2n (by rw [HA.out,if_neg (by rintro ⟨-,h⟩;rename _=true=>hx;rw [h] at hx;simp at hx)]),hbb⟩
     ·go_ret2
      have h2:lenR r=j:=by rename (_ != _)=false=>hx;exact Int.ofNat.inj (by simpa using hx)
      exact⟨ret2n (by rw [HA.out,if_pos ⟨hcan,h2⟩]),hbb⟩
    ·have hc2:canR r=false:=by simpa using hcan
     go_wp2_with (first
      | (go_at_call 190;(with_reducible refine (char_calls r _).mono ?_);rintro e w2 ⟨rfl,rfl⟩)
      | (go_at_call 191;fail))
     go_ret2
     exact⟨ret2n (by rw [HA.out,if_neg (by simp [hc2])]),Below.refl _ _⟩
def firstR (x:Nat × Nat):Nat × Nat:=if (x.1=65533∧x.2=1)∨canR x.1=false then (0,0) else x
set_option maxHeartbeats 4000000
set_option maxRecDepth 100000
theorem canR_iff (r:Nat):canR r=true↔(r=9∨r=10∨r=13∨(32≤r∧r≤55295)∨(57344≤r∧r≤65533)∨(65536≤r∧r≤1114111)):=by simp [canR]
theorem fin_eq (r n:Nat) (x:Nat × Nat) (h1:lenR r=n→canR r=true→x=(r,n)∧¬(r=65533∧n=1)) (h2:¬(lenR r=n∧canR r=true)→(x.1=65533∧x.2=1)∨canR x.1=false) :
  firstR x=if canR r=true∧lenR r=n then (r,n) else (0,0):=by
 unfold firstR
 by_cases h:canR r=true∧lenR r=n
 ·obtain⟨rfl,h3⟩:=h1 h.2 h.1
  rw [if_pos h,if_neg]
  rintro (h4 | h4)
  ·exact h3 h4
  ·simp only at h4;rw [h.1] at h4;cases h4
 ·rw [if_neg h,if_pos (h2 fun k=>h ⟨k.2,k.1⟩)]
theorem one_eq (n b0 b1 b2 b3:Nat) (h:b0 < 128):firstR (Lib.decodeN n b0 b1 b2 b3)=if canR b0=true∧lenR b0=1 then (b0,1) else (0,0):=by
 have hd:Lib.decodeN n b0 b1 b2 b3=(b0,1):=by unfold Lib.decodeN;rw [if_pos h]
 have hl:lenR b0=1:=by unfold lenR;rw [if_pos h]
 rw [hd]
 refine fin_eq _ _ _ (fun _ _=>⟨rfl,by omega⟩) (fun hk=>?_)
 right
 simpa [hl] using hk
theorem two_eq (n b0 b1 b2 b3 : Nat) (h : 192 ≤ b0 ∧ b0 < 224) (h1 : 128 ≤ b1 ∧ b1 < 192) (hn : 2 ≤ n) : firstR (Lib.decodeN n b0 b1 b2 b3) = if canR (64 * (b0 - 192) + b1 - 128) = true ∧ lenR (64 * (b0 - 192) + b1 - 128) = 2 then (64 * (b0 - 192) + b1 - 128, 2) else (0, 0) := by
  have he : b0 % 32 * 64 + b1 % 64 = 64 * (b0 - 192) + b1 - 128 := by omega
  have hd : Lib.decodeN n b0 b1 b2 b3 = if 64 * (b0 - 192) + b1 - 128 ≥ 128 then (64 * (b0 - 192) + b1 - 128, 2) else (65533, 1) := by
    unfold Lib.decodeN; rw [if_neg (by omega), if_pos (by omega), he]
  rw [hd]
  obtain ⟨r, hr⟩ : ∃ r, 64 * (b0 - 192) + b1 - 128 = r := ⟨_, rfl⟩
  have hlt : r < 2048 := by omega
  rw [hr]
  have hl : lenR r = 2 ↔ 128 ≤ r := by unfold lenR; repeat' split
                                       all_goals omega
  refine fin_eq _ _ _ (fun h2 _ => ?_) (fun hk => ?_)
  · have h3 := hl.1 h2
    exact ⟨by rw [if_pos h3], by omega⟩
  · by_cases h3 : r ≥ 128
    · rw [if_pos h3]; right
      have := hl.2 h3
      simpa [this] using hk
    · rw [if_neg h3]; left; exact ⟨rfl, rfl⟩
theorem three_eq (n b0 b1 b2 b3 : Nat) (h : 224 ≤ b0 ∧ b0 < 240) (h1 : 128 ≤ b1 ∧ b1 < 192) (h2 : 128 ≤ b2 ∧ b2 < 192) (hn : 3 ≤ n) : firstR (Lib.decodeN n b0 b1 b2 b3) = if canR (64 * (64 * (b0 - 224) + b1 - 128) + b2 - 128) = true ∧ lenR (64 * (64 * (b0 - 224) + b1 - 128) + b2 - 128) = 3 then (64 * (64 * (b0 - 224) + b1 - 128) + b2 - 128, 3) else (0, 0) := by
  obtain ⟨r, hr⟩ : ∃ r, 64 * (64 * (b0 - 224) + b1 - 128) + b2 - 128 = r := ⟨_, rfl⟩
  have he : b0 % 16 * 4096 + b1 % 64 * 64 + b2 % 64 = r := by omega
  have hlt : r < 65536 := by omega
  have hd : Lib.decodeN n b0 b1 b2 b3 = if r ≥ 2048 ∧ (r < 55296 ∨ (57344 ≤ r ∧ r ≤ 1114111)) then (r, 3) else (65533, 1) := by
    unfold Lib.decodeN; rw [if_neg (by omega), if_neg (by omega), if_pos (by omega), he]
  rw [hd, hr]
  have hl : lenR r = 3 ↔ 2048 ≤ r := by unfold lenR; repeat' split
                                        all_goals omega
  refine fin_eq _ _ _ (fun h3 hc => ?_) (fun hk => ?_)
  · have h4 := hl.1 h3
    have h5 := (canR_iff r).1 hc
    exact ⟨by rw [if_pos (by omega)], by omega⟩
  · by_cases h3 : r ≥ 2048 ∧ (r < 55296 ∨ (57344 ≤ r ∧ r ≤ 1114111))
    · rw [if_pos h3]; right
      have := hl.2 h3.1
      simpa [this] using hk
    · rw [if_neg h3]; left; exact ⟨rfl, rfl⟩
theorem four_eq (n b0 b1 b2 b3 : Nat) (h : 240 ≤ b0 ∧ b0 < 248) (h1 : 128 ≤ b1 ∧ b1 < 192) (h2 : 128 ≤ b2 ∧ b2 < 192) (h3 : 128 ≤ b3 ∧ b3 < 192) (hn : 4 ≤ n) : firstR (Lib.decodeN n b0 b1 b2 b3) = if canR (64 * (64 * (64 * (b0 - 240) + b1 - 128) + b2 - 128) + b3 - 128) = true ∧ lenR (64 * (64 * (64 * (b0 - 240) + b1 - 128) + b2 - 128) + b3 - 128) = 4 then (64 * (64 * (64 * (b0 - 240) + b1 - 128) + b2 - 128) + b3 - 128, 4) else (0, 0) := by
  obtain ⟨r, hr⟩ : ∃ r, 64 * (64 * (64 * (b0 - 240) + b1 - 128) + b2 - 128) + b3 - 128 = r := ⟨_, rfl⟩
  have he : b0 % 8 * 262144 + b1 % 64 * 4096 + b2 % 64 * 64 + b3 % 64 = r := by omega
  have hd : Lib.decodeN n b0 b1 b2 b3 = if r ≥ 65536 ∧ (r < 55296 ∨ (57344 ≤ r ∧ r ≤ 1114111)) then (r, 4) else (65533, 1) := by
    unfold Lib.decodeN; rw [if_neg (by omega), if_neg (by omega), if_neg (by omega), if_pos (by omega), he]
  rw [hd, hr]
  have hl : lenR r = 4 ↔ 65536 ≤ r := by unfold lenR; repeat' split
                                         all_goals omega
  refine fin_eq _ _ _ (fun h3 hc => ?_) (fun hk => ?_)
  · have h4 := hl.1 h3
    have h5 := (canR_iff r).1 hc
    exact ⟨by rw [if_pos (by omega)], by omega⟩
  · by_cases h3 : r ≥ 65536 ∧ (r < 55296 ∨ (57344 ≤ r ∧ r ≤ 1114111))
    · rw [if_pos h3]; right
      have := hl.2 h3.1
      simpa [this] using hk
    · rw [if_neg h3]; left; exact ⟨rfl, rfl⟩
theorem bad_first {n b0 b1 b2 b3:Nat} (h:Lib.decodeN n b0 b1 b2 b3=(65533,1)):firstR (Lib.decodeN n b0 b1 b2 b3)=(0,0):=by
 rw [h];unfold firstR;rw [if_pos (Or.inl ⟨rfl,rfl⟩)]
theorem dec_at (s:ByteArray) (i:Nat) (hi:i < s.size):firstR (Utf8.decode s i)=atR s i:=by
 rw [Lib.decode_at]
 obtain⟨b0,h0⟩:∃b,(s.get! i).toNat=b:=⟨_,rfl⟩
 obtain⟨b1,h1⟩:∃b,(s.get! (i+1)).toNat=b:=⟨_,rfl⟩
 obtain⟨b2,h2⟩:∃b,(s.get! (i+2)).toNat=b:=⟨_,rfl⟩
 obtain⟨b3,h3⟩:∃b,(s.get! (i+3)).toNat=b:=⟨_,rfl⟩
 have l0:b0 < 256:=by rw [←h0];exact (s.get! i).toNat_lt
 obtain⟨n,hn⟩:∃n,s.size-i=n:=⟨_,rfl⟩
 unfold atR
 rw [h0,h1,h2,h3,hn]
 by_cases c1:b0 < 128
 ·have hs:sizeR b0=(1,b0):=by unfold sizeR;rw [if_pos c1]
  rw [hs,one_eq _ _ _ _ _ c1]
  have hz:¬(1=0∨s.size < i+1):=by omega
  simp only [contR,Nat.sub_self,if_neg hz]
 ·by_cases c2:192≤b0∧b0 < 224
  ·have hs:sizeR b0=(2,b0-192):=by unfold sizeR;rw [if_neg c1,if_pos c2]
   rw [hs]
   simp only [contR,h1,show 2-1=0+1 from rfl]
   by_cases k:2≤n∧(128≤b1∧b1 < 192)
   ·rw [if_neg (by omega),if_neg (by omega),two_eq _ _ _ _ _ c2 k.2 k.1]
   ·rw [bad_first (by unfold Lib.decodeN;rw [if_neg (by omega),if_neg (by omega),if_neg (by omega),if_neg (by omega)])]
    by_cases k2:s.size < i+2
    ·rw [if_pos (Or.inr k2)]
    ·rw [if_neg (by omega),if_pos (by omega)]
  ·by_cases c3:224≤b0∧b0 < 240
   ·have hs:sizeR b0=(3,b0-224):=by unfold sizeR;rw [if_neg c1,if_neg c2,if_pos c3]
    rw [hs]
    simp only [contR,h1,h2,show 3-1=0+1+1 from rfl]
    by_cases k:3≤n∧(128≤b1∧b1 < 192)∧(128≤b2∧b2 < 192)
    ·rw [if_neg (by omega),if_neg (by omega),if_neg (by omega),three_eq _ _ _ _ _ c3 k.2.1 k.2.2 k.1]
    ·rw [bad_first (by unfold Lib.decodeN;rw [if_neg (by omega),if_neg (by omega),if_neg (by omega),if_neg (by omega)])]
     by_cases k2:s.size < i+3
     ·rw [if_pos (Or.inr k2)]
     ·rw [if_neg (by omega)]
      by_cases k3:b1 < 128∨192≤b1
      ·rw [if_pos k3]
      ·rw [if_neg k3,if_pos (by omega)]
   ·by_cases c4:240≤b0∧b0 < 248
    ·have hs:sizeR b0=(4,b0-240):=by unfold sizeR;rw [if_neg c1,if_neg c2,if_neg c3,if_pos c4]
     rw [hs]
     simp only [contR,h1,h2,h3,show 4-1=0+1+1+1 from rfl]
     by_cases k:4≤n∧(128≤b1∧b1 < 192)∧(128≤b2∧b2 < 192)∧(128≤b3∧b3 < 192)
     ·rw [if_neg (by omega),if_neg (by omega),if_neg (by omega),if_neg (by omega),four_eq _ _ _ _ _ c4 k.2.1 k.2.2.1 k.2.2.2 k.1]
     ·rw [bad_first (by unfold Lib.decodeN;rw [if_neg (by omega),if_neg (by omega),if_neg (by omega),if_neg (by omega)])]
      by_cases k2:s.size < i+4
      ·rw [if_pos (Or.inr k2)]
      ·rw [if_neg (by omega)]
       by_cases k3:b1 < 128∨192≤b1
       ·rw [if_pos k3]
       ·rw [if_neg k3]
        by_cases k4:b2 < 128∨192≤b2
        ·rw [if_pos k4]
        ·rw [if_neg k4,if_pos (by omega)]
    ·have hs:sizeR b0=(0,0):=by unfold sizeR;rw [if_neg c1,if_neg c2,if_neg c3,if_neg c4]
     rw [hs,if_pos (Or.inl rfl),bad_first (by unfold Lib.decodeN;rw [if_neg (by omega),if_neg (by omega),if_neg (by omega),if_neg (by omega)])]
def badF (s:ByteArray):Nat→Nat→Nat × Nat
 | 0,_=>(0,0)
 | f+1,i=>if s.size≤i then (0,0) else if (atR s i).2=0 then (i,7) else badF s f (i+(atR s i).2)
def textS (s:ByteArray):Nat × Nat:=if 16384 < s.size then (0,2) else badF s (s.size+1) 0
theorem atR_le (s:ByteArray) (i:Nat):(atR s i).2≤4:=by
 have:=(sizeR_lt (s.get! i).toNat).1
 unfold atR
 repeat' split
 all_goals simp only
 all_goals omega
set_option maxHeartbeats 4000000
set_option maxRecDepth 100000
theorem bad_calls (s:ByteArray) (hs:s.size≤16384) (w:World):Calls Tryz.prog 132 #[.string s] w fun e w'=>e=.returned (.tuple #[.int .i64 (badF s (s.size+1) 0).1,.int .i64 (badF s (s.size+1) 0).2])∧Below w.heap.size w w':=by
 go_enter Tryz.func132,Tryz.ntmps132
 go_wp2
 go_loopw [4] (fun v wr=>∃(i f:Nat),s.size < i+f∧v=.int .i64 i∧i≤s.size+4∧Below w.heap.size w wr∧Hid (badF s (s.size+1) 0=badF s f i)) (fun v wr=>s.size-(intOf v).toNat)
 case atStart=>exact⟨0,s.size+1,by omega,rfl,by omega,Below.refl _ _,Lib.hid rfl⟩
 case round =>
  obtain⟨i,f,hf,rfl,hi4,HB,HF⟩:=hrel
  by_cases hi:i < s.size
  ·have hi0:(i:Int) < s.size:=by omega
   obtain⟨f,rfl⟩:∃g,f=g+1:=⟨f-1,by omega⟩
   obtain⟨n,hn⟩:∃n,(atR s i).2=n:=⟨_,rfl⟩
   obtain⟨r,hr⟩:∃r,(atR s i).1=r:=⟨_,rfl⟩
   have hn4:=atR_le s i
   rw [hn] at hn4
   have hF:badF s (s.size+1) 0=if n=0 then (i,7) else badF s f (i+n):=by rw [HF.out,badF,if_neg (by omega),hn]
   have HF:=Lib.hid hF
   have cA:=at_calls s i hi (by omega)
   simp only [hn,hr] at cA
   have HI:=Lib.hid (And.intro hf (And.intro hi4 (And.intro hi hn4)))
   clear hF hn hr hf hi4 hi hn4
   obtain⟨wo,rfl⟩:∃wo:World,wo=wr:=⟨_,rfl⟩
   by_cases hn0:n=0
   ·subst hn0
    go_wp2_with (go_at_call 164;(with_reducible refine (cA _).mono ?_);rintro e w1 ⟨rfl,hb⟩;replace HB:=bt1 HB hb;clear hb)
    go_ret2
    have hF0:badF s (s.size+1) 0=(i,7):=by rw [HF.out];simp
    exact⟨by rw [hF0];rfl,HB⟩
   ·have hn1:¬(n:Int)=0:=by omega
    have hn2:((n:Int) == 0)=false:=by simpa using hn1
    go_wp2_with (go_at_call 164;(with_reducible refine (cA _).mono ?_);rintro e w1 ⟨rfl,hb⟩;replace HB:=bt1 HB hb;clear hb)
    obtain⟨hf,hi4,hi,hn4⟩:=HI.out
    refine⟨⟨i+n,f,by omega,?_,by omega,HB,Lib.hid (by rw [HF.out,if_neg hn0])⟩,?_⟩
    ·rw [IntWalk.wrap64_in _ (by omega)];congr 1
    ·rw [IntWalk.wrap64_in _ (by omega)];simp only [intOf];omega
  ·have hi0:¬(i:Int) < s.size:=by omega
   have hF:badF s (s.size+1) 0=(0,0):=by
    rw [HF.out];cases f with
    | zero=>rfl
    | succ f=>rw [badF,if_pos (by omega)]
   clear HF
   go_wp2
   go_ret2
   exact⟨rfl,HB⟩
theorem textR_calls (s:ByteArray) (w:World):Calls Tryz.prog 89 #[.string s] w fun e w'=>e=.returned (.tuple #[.int .i64 (textS s).1,.int .i64 (textS s).2])∧Below w.heap.size w w':=by
 go_enter Tryz.func89,Tryz.ntmps89
 by_cases h:16384 < s.size
 ·have h0:(16384:Int) < s.size:=by omega
  have hT:textS s=(0,2):=by unfold textS;rw [if_pos h]
  go_wp2_with (go_at_call 132;fail)
  go_ret2
  exact⟨by first | rfl | (rw [hT];rfl),Below.refl _ _⟩
 ·have h0:¬(16384:Int) < s.size:=by omega
  have hT:textS s=badF s (s.size+1) 0:=by unfold textS;rw [if_neg h]
  go_wp2_with (go_at_call 132;(with_reducible refine (bad_calls s (by omega) _).mono ?_);rintro e w1 ⟨rfl,hb⟩)
  go_ret2
  exact⟨by first | rfl | (rw [hT];rfl),hb⟩
theorem first_calls (s:ByteArray) (hs:0 < s.size) (w:World) (hT:Tabs w):Calls Tryz.prog 151 #[.string s] w fun e w'=>e=.returned (.tuple #[.int .i64 (atR s 0).1,.int .i64 (atR s 0).2,.int .i64 (if (atR s 0).2=0 then 7 else 0)])∧Below w.heap.size w w':=by
 have cD:=decode_calls s w hT
 have hA:=dec_at s 0 hs
 have hd:Lib.decodeGo s=Utf8.decode s 0:=by unfold Lib.decodeGo;rw [if_neg (by omega)]
 obtain⟨r,hr⟩:∃r,(Utf8.decode s 0).1=r:=⟨_,rfl⟩
 obtain⟨n,hn⟩:∃n,(Utf8.decode s 0).2=n:=⟨_,rfl⟩
 rw [hd,hr,hn] at cD
 have hrn:Utf8.decode s 0=(r,n):=by rw [←hr,←hn]
 rw [hrn] at hA
 have hn1:1≤n∧r < 2147483648:=by
  rw [←hr,←hn,Lib.decode_at]
  unfold Lib.decodeN
  repeat' split
  all_goals simp only
  all_goals omega
 have hn0:((n:Int) == 0)=false:=by simp;omega
 have hr32:IntKind.i64.wrap (r:Int)=r:=IntWalk.i64_in _ (by omega)
 obtain⟨hn1,hr1⟩:=hn1
 have hn2:¬(n:Int)=0:=by omega
 clear hd hr hn hrn
 by_cases hb:(r=65533∧n=1)
 ·obtain⟨rfl,rfl⟩:=hb
  have h2:atR s 0=(0,0):=by rw [←hA];unfold firstR;rw [if_pos (Or.inl ⟨rfl,rfl⟩)]
  rw [h2]
  clear hA h2
  go_enter Tryz.func151,Tryz.ntmps151
  go_wp2_with (first
   | (go_at_call 183;(with_reducible refine (cD).mono ?_);rintro e w1 ⟨rfl,hb⟩)
   | (go_at_call 184;(with_reducible refine (can_calls 65533 _).mono ?_);rintro e w2 ⟨rfl,rfl⟩))
  all_goals go_ret3
  all_goals exact⟨rfl,hb⟩
 ·by_cases hc:canR r=true
  ·have h2:atR s 0=(r,n):=by rw [←hA];unfold firstR;rw [if_neg (by simp [hc];omega)]
   rw [h2,if_neg (by simp only;omega)]
   clear hA h2
   by_cases hq:r=65533
   ·subst hq
    have hb1:((n:Int) == 1)=false:=by
     rw [Bool.eq_false_iff];intro h;simp at h;omega
    have hb2:¬(n:Int)=1:=by omega
    have cC:∀w,Calls Tryz.prog 184 #[.int .i64 65533] w fun e w'=>e=.returned (.bool true)∧w'=w:=fun w=>(can_calls 65533 w).mono fun e w' h=>by rw [hc] at h;exact h
    go_enter Tryz.func151,Tryz.ntmps151
    go_wp2_with (first
     | (go_at_call 183;(with_reducible refine (cD).mono ?_);rintro e w1 ⟨rfl,hb⟩)
     | (go_at_call 184;(with_reducible refine (cC _).mono ?_);rintro e w2 ⟨rfl,rfl⟩))
    all_goals go_ret3
    all_goals exact⟨rfl,hb⟩
   ·have hb1:((r:Int) == 65533)=false:=by
     rw [Bool.eq_false_iff];intro h;simp at h;omega
    have hb2:¬(r:Int)=65533:=by omega
    go_enter Tryz.func151,Tryz.ntmps151
    go_wp2_with (first
     | (go_at_call 183;(with_reducible refine (cD).mono ?_);rintro e w1 ⟨rfl,hb⟩)
     | (go_at_call 184;(with_reducible refine (can_calls r _).mono ?_);rintro e w2 ⟨rfl,rfl⟩))
    all_goals go_ret3
    all_goals exact⟨rfl,hb⟩
  ·have hc1:canR r=false:=by simpa using hc
   have h2:atR s 0=(0,0):=by rw [←hA];unfold firstR;rw [if_pos (Or.inr hc1)]
   rw [h2]
   clear hA h2
   have hb2:¬(r:Int)=65533:=by
    intro h
    have:r=65533:=by omega
    subst this
    exact hc (by decide)
   have hb1:((r:Int) == 65533)=false:=by
    rw [Bool.eq_false_iff];intro h;simp at h;exact hb2 h
   go_enter Tryz.func151,Tryz.ntmps151
   go_wp2_with (first
    | (go_at_call 183;(with_reducible refine (cD).mono ?_);rintro e w1 ⟨rfl,hb⟩)
    | (go_at_call 184;(with_reducible refine (can_calls r _).mono ?_);rintro e w2 ⟨rfl,rfl⟩))
   all_goals go_ret3
   all_goals exact⟨rfl,hb⟩
theorem decGo_extract (s:ByteArray) (pos:Nat) (h:pos < s.size):Lib.decodeGo (s.extract pos s.size)=Utf8.decode s pos:=by
 have hx:(s.extract pos s.size).data.toList=s.data.toList.drop pos:=by
  rw [Lib.extract_data,List.take_of_length_le (by rw [List.length_drop,←Lib.size_eq];omega)]
 have hsz:(s.extract pos s.size).size≠0:=by rw [Lib.size_eq,hx,List.length_drop,←Lib.size_eq];omega
 unfold Lib.decodeGo
 rw [if_neg hsz,←Lib.decodeL_drop s pos,←hx]
 rfl
theorem atR_extract (s:ByteArray) (i:Nat) (hi:i < s.size):atR (s.extract i s.size) 0=atR s i:=by
 have h:=decGo_extract s i hi
 have hz:0 < (s.extract i s.size).size:=by simp;omega
 rw [←dec_at _ 0 hz,←dec_at s i hi,←h]
 unfold Lib.decodeGo
 rw [if_neg (by omega)]
theorem Tabs.keep {w w1:World} (h:Tabs w) (hb:Below w.heap.size w w1):Tabs w1:=⟨fun c hc=>kcell hb (h.1 c hc),fun i hi=>⟨kcell hb (h.2 i hi).1,kcell hb (h.2 i hi).2⟩⟩
set_option maxHeartbeats 4000000
set_option maxRecDepth 100000
theorem text_calls (s:ByteArray) (w:World) (hT:Tabs w):Calls Tryz.prog 112 #[.string s] w fun e w'=>e=.returned (.tuple #[.int .i64 (textS s).1,.int .i64 (textS s).2])∧Below w.heap.size w w':=by
 by_cases h:16384 < s.size
 ·have h0:(16384:Int) < s.size:=by omega
  have hX:textS s=(0,2):=by unfold textS;rw [if_pos h]
  go_enter Tryz.func112,Tryz.ntmps112
  go_wp2_with (go_at_call 151;fail)
  go_ret2
  exact⟨by first | rfl | (rw [hX];rfl),Below.refl _ _⟩
 have hX:textS s=badF s (s.size+1) 0:=by unfold textS;rw [if_neg h]
 have h0:¬(16384:Int) < s.size:=by omega
 have HX:=Lib.hid hX
 have HT:=Lib.hid hT
 clear hX hT
 go_enter Tryz.func112,Tryz.ntmps112
 go_wp2
 go_loopw [4] (fun v wr=>∃(i f:Nat),s.size < i+f∧v=.int .i64 i∧i≤s.size+4∧Below w.heap.size w wr∧Hid (badF s (s.size+1) 0=badF s f i)) (fun v wr=>s.size-(intOf v).toNat)
 case atStart=>exact⟨0,s.size+1,by omega,rfl,by omega,Below.refl _ _,Lib.hid rfl⟩
 case round =>
  obtain⟨i,f,hf,rfl,hi4,HB,HF⟩:=hrel
  by_cases hi:i < s.size
  ·have hi0:(i:Int) < s.size:=by omega
   obtain⟨f,rfl⟩:∃g,f=g+1:=⟨f-1,by omega⟩
   obtain⟨n,hn⟩:∃n,(atR s i).2=n:=⟨_,rfl⟩
   obtain⟨r,hr⟩:∃r,(atR s i).1=r:=⟨_,rfl⟩
   have hn4:=atR_le s i
   rw [hn] at hn4
   have hF:textS s=if n=0 then (i,7) else badF s f (i+n):=by rw [HX.out,HF.out,badF,if_neg (by omega),hn]
   have HF2:Hid (n≠0→badF s (s.size+1) 0=badF s f (i+n)):=Lib.hid (fun h=>by rw [HF.out,badF,if_neg (by omega),hn,if_neg h])
   have HF:=Lib.hid hF
   have cA:=fun (w:World) (hT:Tabs w)=>first_calls (s.extract i s.size) (by simp;omega) w hT
   rw [atR_extract s i hi] at cA
   simp only [hn,hr] at cA
   have HI:=Lib.hid (And.intro hf (And.intro hi4 (And.intro hi hn4)))
   clear hF hn hr hf hi4 hi hn4
   obtain⟨wo,rfl⟩:∃wo:World,wo=wr:=⟨_,rfl⟩
   by_cases hn0:n=0
   ·subst hn0
    go_wp2_with (go_at_call 151;(with_reducible refine (cA _ (HT.out.keep HB)).mono ?_);rintro e w1 ⟨rfl,hb⟩;replace HB:=bt1 HB hb;clear hb)
    go_ret2
    have hF0:textS s=(i,7):=by rw [HF.out];simp
    exact⟨by rw [hF0];rfl,HB⟩
   ·have hn1:¬(n:Int)=0:=by omega
    have hn2:((n:Int) == 0)=false:=by simpa using hn1
    simp only [if_neg hn0] at cA
    go_wp2_with (go_at_call 151;(with_reducible refine (cA _ (HT.out.keep HB)).mono ?_);rintro e w1 ⟨rfl,hb⟩;replace HB:=bt1 HB hb;clear hb)
    obtain⟨hf,hi4,hi,hn4⟩:=HI.out
    refine⟨⟨i+n,f,by omega,?_,by omega,HB,Lib.hid (HF2.out hn0)⟩,?_⟩
    ·rw [IntWalk.wrap64_in _ (by omega)];congr 1
    ·rw [IntWalk.wrap64_in _ (by omega)];simp only [intOf];omega
  ·have hi0:¬(i:Int) < s.size:=by omega
   have hF:textS s=(0,0):=by
    rw [HX.out,HF.out];cases f with
    | zero=>rfl
    | succ f=>rw [badF,if_pos (by omega)]
   have HF:=Lib.hid hF
   clear hF
   go_wp2
   go_ret2
   exact⟨by rw [HF.out];rfl,HB⟩
end Go.Proofs.YtccplipiahdhiaaGreatDoor
set_option linter.unusedVariables false
set_option maxRecDepth 100000
namespace Go.Proofs.YtccplipiahdhiaaGreatDoor
open Go.Vc
def F56 (d:Option Addr) (h_:Int) (p:World) (R:Ending→World→Prop):Prop :=
 Br (h_ == (0:Int))
 (NonNil d fun p10 =>
 LdSl (p.cell? (p10.add 1)) fun k a f =>
 Calls Tryz.prog 96 #[(.slice k a f),(.slice none 0 0)] p (post R fun v w1 =>
 ∃(j:Option Addr) (h:Nat) (b:Nat),v=(.slice j h b) ∧
 R (.returned (.tuple #[(.slice j h b),(.int .i64 0)])) w1))
 (Calls Tryz.prog 65 #[(.pointer d),(.int .u64 h_)] p (post R fun v w1 =>
 ∃(n:Option Addr),v=(.pointer n) ∧
 Br (n).isNone
 (R (.returned (.tuple #[(.slice none 0 0),(.int .i64 8)])) w1)
 (Al w1 #[(.pointer n)] 152 fun g20 g =>
 Calls Tryz.prog 96 #[(.slice (some g20) 1 1),(.slice none 0 0)] g (post R fun v2 c =>
 ∃(m:Option Addr) (i:Nat) (e:Nat),v2=(.slice m i e) ∧
 R (.returned (.tuple #[(.slice m i e),(.int .i64 0)])) c))))
theorem ok56 (d:Option Addr) (h_:Int) {w:World}{R:Ending→World→Prop} (h:F56 d h_ w R):Calls Tryz.prog 56 #[(.pointer d),(.int .u64 h_)] w R :=
 vc_calls (pl:=⟨22,⟨[]⟩,[],[]⟩) Tryz.func56 (by kernel_rfl) (by kernel_rfl) (by kernel_rfl) (Eq.mp (by kernel_rfl) h)
def F64_j16 (L11:Int→World→Prop) (b:Int) (a:World) (R:Ending→World→Prop):Prop :=
 InR .i64 (b+(1:Int))∧L11 (b+(1:Int)) a
def F64_l11 (d:Option Addr) (c:Addr) (ka:Option Addr) (g:Nat) (L11:Int→World→Prop) (pa:Int) (bb:World) (R:Ending→World→Prop):Prop :=
 Br (decide (pa < ((g:Nat):Int)))
 (∃J16:World→Prop,(∀ (w1:World),J16 w1→F64_j16 L11 pa w1 R) ∧
 (IdxA ka g pa 1 fun za =>
 LdP (bb.cell? za) fun ha =>
 ∃S:World→Prop,S bb.drew∧∃(ab:Option Addr),Held S c (.pointer ab)∧NonNil ab fun p64 =>
 ∃(ia:Option Addr) (fa:Nat) (j:Nat),Held S p64 (.slice ia fa j)∧IdxA ia fa pa 1 fun sa =>
 ∃(ra:Option Addr),Held S sa (.pointer ra)∧NonNil ha fun p72 =>
 ∃(ua:Option Addr) (k:Nat) (t:Nat),Held S (p72.add 8) (.slice ua k t)∧CallV Tryz.prog (.func (.func 110) #[] #[(.pointer (some c))]) #[(.slice ua k t)] bb.drew R (fun v ea =>
 ∃(ga:Option Addr) (da:Nat) (ca:Nat),v=(.slice ga da ca) ∧
 S ea∧NonNil ra fun p76 =>
 St ea (p76.add 8) (.slice ga da ca) fun h =>
 NonNil ha fun p79 =>
 LdP (h.cell? (p79.add 7)) fun qa =>
 Br (!(qa).isNone)
 (∃S2:World→Prop,S2 h.drew∧∃(ya:Option Addr),Held S2 c (.pointer ya)∧NonNil ya fun p84 =>
 ∃(ma:Option Addr) (p:Nat) (u:Nat),Held S2 p84 (.slice ma p u)∧IdxA ma p pa 1 fun cb =>
 ∃(na:Option Addr),Held S2 cb (.pointer na)∧∃(va:Option Addr),Held S2 c (.pointer va)∧NonNil va fun p91 =>
 ∃(ta:Option Addr) (y:Nat) (m:Nat),Held S2 p91 (.slice ta y m)∧NonNil ha fun p95 =>
 ∃(ja:Option Addr),Held S2 (p95.add 7) (.pointer ja)∧NonNil ja fun p98 =>
 ∃(r:Int),Held S2 p98 (.int .u32 r)∧InR .u32 (r-(1:Int))∧IdxA ta y (r-(1:Int)) 1 fun z =>
 ∃(ba:Option Addr),Held S2 z (.pointer ba)∧NonNil na fun p104 =>
 St h.drew (p104.add 7) (.pointer ba) fun i =>
 J16 i)
 (J16 h))))
 (∃S:World→Prop,S bb.drew∧∃(q:Option Addr),Held S c (.pointer q)∧NonNil d fun p110 =>
 ∃(n:Option Addr) (a:Nat) (b:Nat),Held S (p110.add 1) (.slice n a b)∧CallV Tryz.prog (.func (.func 110) #[] #[(.pointer (some c))]) #[(.slice n a b)] bb.drew R (fun v ea =>
 ∃(aa:Option Addr) (f:Nat) (e:Nat),v=(.slice aa f e) ∧
 S ea∧NonNil q fun p114 =>
 St ea (p114.add 1) (.slice aa f e) fun h =>
 LdP (h.cell? c) fun s =>
 R (.returned (.pointer s)) h))
def F64_l3 (d:Option Addr) (c:Addr) (jb:Option Addr) (ca:Nat) (L3:Int→World→Prop) (ya:Int) (hb:World) (R:Ending→World→Prop):Prop :=
 Br (decide (ya < ((ca:Nat):Int)))
 (IdxA jb ca ya 1 fun ib =>
 LdP (hb.cell? ib) fun gb =>
 NonNil gb fun p34 =>
 LdI .u32 (hb.cell? p34) fun y =>
 LdI .u32 (hb.cell? (p34.add 1)) fun n =>
 LdB (hb.cell? (p34.add 2)) fun z =>
 LdI .i64 (hb.cell? (p34.add 3)) fun u =>
 LdStr (hb.cell? (p34.add 4)) fun p =>
 LdSl (hb.cell? (p34.add 5)) fun t e f =>
 LdStr (hb.cell? (p34.add 6)) fun q =>
 LdP (hb.cell? (p34.add 7)) fun j =>
 LdSl (hb.cell? (p34.add 8)) fun g b a =>
 Al hb #[(.int .u32 0),(.int .u32 0),(.bool false),(.int .i64 0),(.string (ByteArray.mk #[])),(.slice none 0 0),(.string (ByteArray.mk #[])),(.pointer none),(.slice none 0 0)] 202 fun m_ w1 =>
 St w1 m_ (.int .u32 y) fun ta =>
 St ta (m_.add 1) (.int .u32 n) fun da =>
 St da (m_.add 2) (.bool z) fun ka =>
 St ka (m_.add 3) (.int .i64 u) fun ia =>
 St ia (m_.add 4) (.string p) fun ea =>
 St ea (m_.add 5) (.slice t e f) fun na =>
 St na (m_.add 6) (.string q) fun va =>
 St va (m_.add 7) (.pointer j) fun qa =>
 St qa (m_.add 8) (.slice g b a) fun h =>
 NonNil gb fun p37 =>
 LdSl (h.cell? (p37.add 5)) fun kb ga sa =>
 Calls Tryz.prog 109 #[(.slice kb ga sa)] h (post R fun v i =>
 ∃(eb:Option Addr) (fa:Nat) (ua:Nat),v=(.slice eb fa ua) ∧
 St i (m_.add 5) (.slice eb fa ua) fun aa =>
 ∃S:World→Prop,S aa.drew∧∃(fb:Option Addr),Held S c (.pointer fb)∧∃(bb:Option Addr),Held S c (.pointer bb)∧NonNil bb fun p44 =>
 ∃(za:Option Addr) (ja:Nat) (ha:Nat),Held S p44 (.slice za ja ha)∧Al aa.drew #[(.pointer (some m_))] 152 fun g47 r =>
 S r∧Raw Tryz.prog (Builtin.append_ #[96,96] 96 #[(.slice za ja ha),(.slice (some g47) 1 1)]) r fun v2 k =>
 ∃(db:Option Addr) (ma:Nat) (ra:Nat),v2=(.slice db ma ra) ∧
 S k∧NonNil fb fun p49 =>
 St k p49 (.slice db ma ra) fun s =>
 InR .i64 (ya+(1:Int))∧L3 (ya+(1:Int)) s))
 (NonNil d fun p54 =>
 LdSl (hb.cell? p54) fun ab ba pa =>
 ∃(I:Int→World→Prop) (m:Int→World→Nat),I (0:Int) hb ∧
 ∀(cb:Int) (w1:World),I cb w1→F64_l11 d c ab ba (fun cb' w2=>I cb' w2∧m cb' w2 < m cb w1) cb w1 R)
def F64_j2 (d:Option Addr) (c:Addr) (g:World) (R:Ending→World→Prop):Prop :=
 NonNil d fun p25 =>
 LdSl (g.cell? p25) fun e a b =>
 ∃(I:Int→World→Prop) (m:Int→World→Nat),I (0:Int) g ∧
 ∀(f:Int) (w1:World),I f w1→F64_l3 d c e a (fun f' w2=>I f' w2∧m f' w2 < m f w1) f w1 R
def F64 (d:Option Addr) (i:World) (R:Ending→World→Prop):Prop :=
 ∃J2:Addr→World→Prop,(∀(c:Addr) (w1:World),J2 c w1→F64_j2 d c w1 R) ∧
 (∃S:World→Prop,S i.drew∧NonNil d fun p11 =>
 ∃(f:Int),Held S (p11.add 2) (.int .i64 f)∧NonNil d fun p15 =>
 ∃(h:Int),Held S (p15.add 3) (.int .i64 h)∧NonNil d fun p19 =>
 ∃(g:Int),Held S (p19.add 4) (.int .i64 g)∧(Al i.drew #[(.slice none 0 0),(.slice none 0 0),(.int .i64 f),(.int .i64 h),(.int .i64 g)] 98 fun g23 e =>
 Al e #[(.pointer none)] 77 fun c a =>
 St a c (.pointer (some g23)) fun b =>
 J2 c b)
 ∧ (Al i.drew #[(.pointer none)] 77 fun c e =>
 S e∧Al e #[(.slice none 0 0),(.slice none 0 0),(.int .i64 f),(.int .i64 h),(.int .i64 g)] 98 fun g23 a =>
 St a c (.pointer (some g23)) fun b =>
 J2 c b))
theorem ok64 (d:Option Addr) {w:World}{R:Ending→World→Prop} (h:F64 d w R):Calls Tryz.prog 64 #[(.pointer d)] w R :=
 vc_calls (pl:=⟨117,⟨[]⟩,[(16,⟨[],[(8,10),(60,106)]⟩),(2,⟨[(3,(.s .addr))],[(3,24)]⟩)],[(3,⟨[(29,(.s (.int .i64)))],[(5,7),(29,52)]⟩),(11,⟨[(58,(.s (.int .i64)))],[(8,10),(58,107)]⟩)]⟩) Tryz.func64 (by kernel_rfl) (by kernel_rfl) (by kernel_rfl) (Eq.mp (by kernel_rfl) h)
def F110_l3 (l:Option Addr) (lN:Nat) (cap0:Addr) (L3:Option Addr→Nat→Nat→Int→World→Prop) (out:Option Addr) (outN:Nat) (outC:Nat) (r:Int) (q:World) (R:Ending→World→Prop):Prop :=
 Br (decide (r < ((lN:Nat):Int)))
 (IdxA l lN r 1 fun m =>
 LdP (q.cell? m) fun g =>
 ∃S:World→Prop,S q.drew∧∃(p:Option Addr),Held S cap0 (.pointer p)∧NonNil p fun p15 =>
 ∃(n:Option Addr) (c:Nat) (b:Nat),Held S p15 (.slice n c b)∧NonNil g fun p19 =>
 ∃(k:Int),Held S p19 (.int .u32 k)∧InR .u32 (k-(1:Int))∧IdxA n c (k-(1:Int)) 1 fun h =>
 ∃(i:Option Addr),Held S h (.pointer i)∧Al q.drew #[(.pointer i)] 152 fun g25 f =>
 Raw Tryz.prog (Builtin.append_ #[96,96] 96 #[(.slice out outN outC),(.slice (some g25) 1 1)]) f fun v a =>
 ∃(j:Option Addr) (d:Nat) (e:Nat),v=(.slice j d e) ∧
 InR .i64 (r+(1:Int))∧L3 j d e (r+(1:Int)) a)
 (R (.returned (.slice out outN outC)) q)
def F110 (l:Option Addr) (lN:Nat) (lC:Nat) (cap0:Addr) (a:World) (R:Ending→World→Prop):Prop :=
 ∃(I:Option Addr→Nat→Nat→Int→World→Prop) (m:Option Addr→Nat→Nat→Int→World→Nat),I none 0 0 (0:Int) a ∧
 ∀(out:Option Addr) (outN:Nat) (outC:Nat) (b:Int) (w1:World),I out outN outC b w1→F110_l3 l lN cap0 (fun out' outN' outC' b' w2=>I out' outN' outC' b' w2∧m out' outN' outC' b' w2 < m out outN outC b w1) out outN outC b w1 R
theorem ok110 (l:Option Addr) (lN:Nat) (lC:Nat) (cap0:Addr) {w:World}{R:Ending→World→Prop} (h:F110 l lN lC cap0 w R):Calls Tryz.prog 110 #[(.slice l lN lC),(.pointer (some cap0))] w R :=
 vc_calls (pl:=⟨29,⟨[]⟩,[],[(3,⟨[(4,(.s .slice)),(9,(.s (.int .i64)))],[(4,7),(9,28)]⟩)]⟩) Tryz.func110 (by kernel_rfl) (by kernel_rfl) (by kernel_rfl) (Eq.mp (by kernel_rfl) h)
def F226 (d:Option Addr) (h_:Int) (c:World) (R:Ending→World→Prop):Prop :=
 Calls Tryz.prog 65 #[(.pointer d),(.int .u64 h_)] c (post R fun v w1 =>
 ∃(e:Option Addr),v=(.pointer e) ∧
 Br (e).isNone
 (R (.returned (.int .i64 8)) w1)
 (Calls Tryz.prog 233 #[(.pointer d),(.pointer e)] w1 (post R fun v2 a =>
 v2=(.tuple #[]) ∧
 Calls Tryz.prog 234 #[(.pointer d),(.pointer e)] a (post R fun v3 b =>
 v3=(.tuple #[]) ∧
 R (.returned (.int .i64 0)) b))))
theorem ok226 (d:Option Addr) (h_:Int) {w:World}{R:Ending→World→Prop} (h:F226 d h_ w R):Calls Tryz.prog 226 #[(.pointer d),(.int .u64 h_)] w R :=
 vc_calls (pl:=⟨17,⟨[]⟩,[],[]⟩) Tryz.func226 (by kernel_rfl) (by kernel_rfl) (by kernel_rfl) (Eq.mp (by kernel_rfl) h)
def F227 (d:Option Addr) (h_:Int) (name:ByteArray) (q:World) (R:Ending→World→Prop):Prop :=
 Calls Tryz.prog 235 #[(.pointer d),(.int .u64 h_),(.int .i64 1)] q (post R fun v w1 =>
 ∃(b:Option Addr) (e:Int),v=(.tuple #[(.pointer b),(.int .i64 e)]) ∧
 Br (e != (0:Int))
 (R (.returned (.int .i64 e)) w1)
 (Calls Tryz.prog 236 #[(.pointer b),(.string name)] w1 (post R fun v2 h =>
 ∃(a:Int) (c:Bool),v2=(.tuple #[(.int .i64 a),(.bool c)]) ∧
 Br (!c)
 (R (.returned (.int .i64 35)) h)
 (NonNil b fun p30 =>
 LdSl (h.cell? (p30.add 5)) fun p m k =>
 InR .i64 (a+(1:Int))∧Calls Tryz.prog 237 #[(.slice p m k),(.int .i64 a),(.int .i64 (a+(1:Int)))] h (post R fun v3 f =>
 ∃(n:Option Addr) (i:Nat) (j:Nat),v3=(.slice n i j) ∧
 NonNil b fun p37 =>
 St f (p37.add 5) (.slice n i j) fun g =>
 R (.returned (.int .i64 0)) g)))))
theorem ok227 (d:Option Addr) (h_:Int) (name:ByteArray) {w:World}{R:Ending→World→Prop} (h:F227 d h_ name w R):Calls Tryz.prog 227 #[(.pointer d),(.int .u64 h_),(.string name)] w R :=
 vc_calls (pl:=⟨39,⟨[]⟩,[],[]⟩) Tryz.func227 (by kernel_rfl) (by kernel_rfl) (by kernel_rfl) (Eq.mp (by kernel_rfl) h)
def F35 (d:Option Addr) (h_:Int) (t:World) (R:Ending→World→Prop):Prop :=
 Al t #[(.int .i64 0),(.string (ByteArray.mk #[])),(.slice none 0 0),(.string (ByteArray.mk #[])),(.slice none 0 0)] 84 fun g4 w1 =>
 Calls Tryz.prog 65 #[(.pointer d),(.int .u64 h_)] w1 (post R fun v r =>
 ∃(u:Option Addr),v=(.pointer u) ∧
 Br (u).isNone
 (St r g4 (.int .i64 0) fun k =>
 St k (g4.add 1) (.string (ByteArray.mk #[])) fun m =>
 St m (g4.add 2) (.slice none 0 0) fun s =>
 St s (g4.add 3) (.string (ByteArray.mk #[])) fun n =>
 St n (g4.add 4) (.slice none 0 0) fun q =>
 LdI .i64 (q.cell? g4) fun res0_0 =>
 LdStr (q.cell? (g4.add 1)) fun res0_1 =>
 LdSl (q.cell? (g4.add 2)) fun res0_2 res0_2N res0_2C =>
 LdStr (q.cell? (g4.add 3)) fun res0_3 =>
 LdSl (q.cell? (g4.add 4)) fun res0_4 res0_4N res0_4C =>
 R (.returned (.tuple #[(.agg #[(.int .i64 res0_0),(.string res0_1),(.slice res0_2 res0_2N res0_2C),(.string res0_3),(.slice res0_4 res0_4N res0_4C)]),(.int .i64 8)])) q)
 (Calls Tryz.prog 66 #[(.pointer u)] r (post R fun v2 k =>
 ∃(h:Int) (j:ByteArray) (i:Option Addr) (a:Nat) (c:Nat) (g:ByteArray) (f:Option Addr) (e:Nat) (b:Nat),v2=(.agg #[(.int .i64 h),(.string j),(.slice i a c),(.string g),(.slice f e b)]) ∧
 St k g4 (.int .i64 h) fun m =>
 St m (g4.add 1) (.string j) fun s =>
 St s (g4.add 2) (.slice i a c) fun n =>
 St n (g4.add 3) (.string g) fun q =>
 St q (g4.add 4) (.slice f e b) fun p =>
 LdI .i64 (p.cell? g4) fun res0_0 =>
 LdStr (p.cell? (g4.add 1)) fun res0_1 =>
 LdSl (p.cell? (g4.add 2)) fun res0_2 res0_2N res0_2C =>
 LdStr (p.cell? (g4.add 3)) fun res0_3 =>
 LdSl (p.cell? (g4.add 4)) fun res0_4 res0_4N res0_4C =>
 R (.returned (.tuple #[(.agg #[(.int .i64 res0_0),(.string res0_1),(.slice res0_2 res0_2N res0_2C),(.string res0_3),(.slice res0_4 res0_4N res0_4C)]),(.int .i64 0)])) p)))
theorem ok35 (d:Option Addr) (h_:Int) {w:World}{R:Ending→World→Prop} (h:F35 d h_ w R):Calls Tryz.prog 35 #[(.pointer d),(.int .u64 h_)] w R :=
 vc_calls (pl:=⟨15,⟨[]⟩,[],[]⟩) Tryz.func35 (by kernel_rfl) (by kernel_rfl) (by kernel_rfl) (Eq.mp (by kernel_rfl) h)
def F73_j10 (d:Option Addr) (where_:Int) (g7:Addr) (l:Addr) (da:Option Addr) (aa:World) (R:Ending→World→Prop):Prop :=
 Calls Tryz.prog 121 #[(.pointer d),(.int .i64 where_),(.pointer da)] aa (post R fun v4 r =>
 ∃(p:Option Addr) (h:Int),v4=(.tuple #[(.pointer p),(.int .i64 h)]) ∧
 Br (h != (0:Int))
 (R (.returned (.tuple #[(.int .u64 0),(.int .i64 h)])) r)
 (∃S:World→Prop,S r.drew∧∃(ba:Int),Held S (l.add 1) (.int .i64 ba)∧Calls Tryz.prog 108 #[(.pointer p)] r.drew (post R fun v5 t =>
 ∃(ea:Int),v5=(.int .i64 ea) ∧
 S t∧InR .i64 (ea+(1:Int))∧InR .i64 ((ea+(1:Int))+ba)∧Br (decide (((ea+(1:Int))+ba) > (64:Int)))
 (R (.returned (.tuple #[(.int .u64 0),(.int .i64 32)])) t)
 (Dr t fun s =>
 NonNil d fun p55 =>
 LdI .i64 (s.cell? (p55.add 2)) fun ca =>
 NonNil d fun p59 =>
 LdI .i64 (s.cell? (p59.add 3)) fun u =>
 InR .i64 (ca+u)∧LdI .i64 (s.cell? l) fun v =>
 InR .i64 ((ca+u)+v)∧Br (decide (((ca+u)+v) > (4096:Int)))
 (R (.returned (.tuple #[(.int .u64 0),(.int .i64 33)])) s)
 (LdI .i64 (s.cell? g7) fun j =>
 LdStr (s.cell? (g7.add 1)) fun n =>
 LdSl (s.cell? (g7.add 2)) fun k a c =>
 LdStr (s.cell? (g7.add 3)) fun m =>
 LdSl (s.cell? (g7.add 4)) fun i e b =>
 Calls Tryz.prog 122 #[(.pointer d),(.agg #[(.int .i64 j),(.string n),(.slice k a c),(.string m),(.slice i e b)]),(.pointer p)] s (post R fun v6 f =>
 ∃(z:Option Addr),v6=(.pointer z) ∧
 Calls Tryz.prog 123 #[(.pointer d),(.pointer z),(.pointer p),(.int .i64 where_),(.pointer da)] f (post R fun v7 g =>
 v7=(.tuple #[]) ∧
 Calls Tryz.prog 111 #[(.pointer z)] g (post R fun v8 q =>
 ∃(y:Int),v8=(.int .u64 y) ∧
 R (.returned (.tuple #[(.int .u64 y),(.int .i64 0)])) q))))))))
def F73 (d:Option Addr) (where_:Int) (at_:Int) (x_0:Int) (x_1:ByteArray) (x_2:Option Addr) (x_2N:Nat) (x_2C:Nat) (x_3:ByteArray) (x_4:Option Addr) (x_4N:Nat) (x_4C:Nat) (u:World) (R:Ending→World→Prop):Prop :=
 Al u #[(.int .i64 x_0),(.string x_1),(.slice x_2 x_2N x_2C),(.string x_3),(.slice x_4 x_4N x_4C)] 84 fun g7 w1 =>
 Calls Tryz.prog 119 #[(.int .i64 where_),(.int .u64 at_)] w1 (post R fun v p =>
 ∃(t:Bool),v=(.bool t) ∧
 Br (!t)
 (R (.returned (.tuple #[(.int .u64 0),(.int .i64 1)])) p)
 (Al p #[(.int .i64 0),(.int .i64 0)] 222 fun l k =>
 LdI .i64 (k.cell? g7) fun j =>
 LdStr (k.cell? (g7.add 1)) fun f =>
 LdSl (k.cell? (g7.add 2)) fun h a c =>
 LdStr (k.cell? (g7.add 3)) fun g =>
 LdSl (k.cell? (g7.add 4)) fun i e b =>
 Calls Tryz.prog 120 #[(.pointer (some l)),(.agg #[(.int .i64 j),(.string f),(.slice h a c),(.string g),(.slice i e b)]),(.int .i64 1)] k (post R fun v2 m =>
 ∃(s:Int),v2=(.int .i64 s) ∧
 Br (s != (0:Int))
 (R (.returned (.tuple #[(.int .u64 0),(.int .i64 s)])) m)
 (Calls Tryz.prog 65 #[(.pointer d),(.int .u64 at_)] m (post R fun v3 q =>
 ∃(r:Option Addr),v3=(.pointer r) ∧
 ∃J10:World→Prop,(∀ (n:World),J10 n→F73_j10 d where_ g7 l r n R) ∧
 (Br (at_ != (0:Int))
 (Br (r).isNone
 (R (.returned (.tuple #[(.int .u64 0),(.int .i64 8)])) q)
 (J10 q))
 (J10 q)))))))
theorem ok73 (d:Option Addr) (where_:Int) (at_:Int) (x_0:Int) (x_1:ByteArray) (x_2:Option Addr) (x_2N:Nat) (x_2C:Nat) (x_3:ByteArray) (x_4:Option Addr) (x_4N:Nat) (x_4C:Nat) {w:World}{R:Ending→World→Prop} (h:F73 d where_ at_ x_0 x_1 x_2 x_2N x_2C x_3 x_4 x_4N x_4C w R):Calls Tryz.prog 73 #[(.pointer d),(.int .i64 where_),(.int .u64 at_),(.agg #[(.int .i64 x_0),(.string x_1),(.slice x_2 x_2N x_2C),(.string x_3),(.slice x_4 x_4N x_4C)])] w R :=
 vc_calls (pl:=⟨79,⟨[]⟩,[(10,⟨[],[(8,10),(28,34)]⟩)],[]⟩) Tryz.func73 (by kernel_rfl) (by kernel_rfl) (by kernel_rfl) (Eq.mp (by kernel_rfl) h)
def F117 (d:Option Addr) (h_:Int) (i:World) (R:Ending→World→Prop):Prop :=
 Calls Tryz.prog 65 #[(.pointer d),(.int .u64 h_)] i (post R fun v w1 =>
 ∃(j:Option Addr),v=(.pointer j) ∧
 Br (j).isNone
 (R (.returned (.tuple #[(.slice none 0 0),(.int .i64 8)])) w1)
 (NonNil j fun p13 =>
 LdSl (w1.cell? (p13.add 8)) fun g a c =>
 Calls Tryz.prog 115 #[(.slice g a c)] w1 (post R fun v2 e =>
 ∃(h:Option Addr) (b:Nat) (f:Nat),v2=(.slice h b f) ∧
 R (.returned (.tuple #[(.slice h b f),(.int .i64 0)])) e)))
theorem ok117 (d:Option Addr) (h_:Int) {w:World}{R:Ending→World→Prop} (h:F117 d h_ w R):Calls Tryz.prog 117 #[(.pointer d),(.int .u64 h_)] w R :=
 vc_calls (pl:=⟨17,⟨[]⟩,[],[]⟩) Tryz.func117 (by kernel_rfl) (by kernel_rfl) (by kernel_rfl) (Eq.mp (by kernel_rfl) h)
def F228_j8 (d:Option Addr) (where_:Int) (m:Option Addr) (i:Option Addr) (n:World) (R:Ending→World→Prop):Prop :=
 Calls Tryz.prog 121 #[(.pointer d),(.int .i64 where_),(.pointer i)] n (post R fun v4 c =>
 ∃(a:Option Addr) (b:Int),v4=(.tuple #[(.pointer a),(.int .i64 b)]) ∧
 Br (b != (0:Int))
 (R (.returned (.int .i64 b)) c)
 (Calls Tryz.prog 108 #[(.pointer a)] c (post R fun v5 g =>
 ∃(j:Int),v5=(.int .i64 j) ∧
 InR .i64 (j+(1:Int))∧Calls Tryz.prog 239 #[(.pointer m)] g (post R fun v6 e =>
 ∃(k:Int),v6=(.int .i64 k) ∧
 InR .i64 ((j+(1:Int))+k)∧Br (decide (((j+(1:Int))+k) > (64:Int)))
 (R (.returned (.int .i64 32)) e)
 (Calls Tryz.prog 233 #[(.pointer d),(.pointer m)] e (post R fun v7 f =>
 v7=(.tuple #[]) ∧
 Calls Tryz.prog 123 #[(.pointer d),(.pointer m),(.pointer a),(.int .i64 where_),(.pointer i)] f (post R fun v8 h =>
 v8=(.tuple #[]) ∧
 R (.returned (.int .i64 0)) h)))))))
def F228 (d:Option Addr) (h_:Int) (where_:Int) (at_:Int) (i:World) (R:Ending→World→Prop):Prop :=
 Calls Tryz.prog 119 #[(.int .i64 where_),(.int .u64 at_)] i (post R fun v w1 =>
 ∃(e:Bool),v=(.bool e) ∧
 Br (!e)
 (R (.returned (.int .i64 1)) w1)
 (Calls Tryz.prog 65 #[(.pointer d),(.int .u64 h_)] w1 (post R fun v2 c =>
 ∃(h:Option Addr),v2=(.pointer h) ∧
 Calls Tryz.prog 65 #[(.pointer d),(.int .u64 at_)] c (post R fun v3 a =>
 ∃(f:Option Addr),v3=(.pointer f) ∧
 ∃J8:World→Prop,(∀ (b:World),J8 b→F228_j8 d where_ h f b R) ∧
 (Br (h).isNone
 (R (.returned (.int .i64 8)) a)
 (Br (at_ != (0:Int))
 (Br (f).isNone
 (R (.returned (.int .i64 8)) a)
 (Br (!(f).isNone)
 (Calls Tryz.prog 238 #[(.pointer f),(.pointer h)] a (post R fun v4 b =>
 ∃(g:Bool),v4=(.bool g) ∧
 Br g
 (R (.returned (.int .i64 34)) b)
 (J8 b)))
 (J8 a)))
 (Br (!(f).isNone)
 (Calls Tryz.prog 238 #[(.pointer f),(.pointer h)] a (post R fun v4 b =>
 ∃(g:Bool),v4=(.bool g) ∧
 Br g
 (R (.returned (.int .i64 34)) b)
 (J8 b)))
 (J8 a))))))))
theorem ok228 (d:Option Addr) (h_:Int) (where_:Int) (at_:Int) {w:World}{R:Ending→World→Prop} (h:F228 d h_ where_ at_ w R):Calls Tryz.prog 228 #[(.pointer d),(.int .u64 h_),(.int .i64 where_),(.int .u64 at_)] w R :=
 vc_calls (pl:=⟨70,⟨[]⟩,[(8,⟨[],[(8,9),(23,42)]⟩)],[]⟩) Tryz.func228 (by kernel_rfl) (by kernel_rfl) (by kernel_rfl) (Eq.mp (by kernel_rfl) h)
def F124 (d:Option Addr) (h_:Int) (e:World) (R:Ending→World→Prop):Prop :=
 Calls Tryz.prog 65 #[(.pointer d),(.int .u64 h_)] e (post R fun v w1 =>
 ∃(f:Option Addr),v=(.pointer f) ∧
 Br (f).isNone
 (R (.returned (.tuple #[(.int .u64 0),(.int .i64 8)])) w1)
 (NonNil f fun p13 =>
 LdP (w1.cell? (p13.add 7)) fun b =>
 Calls Tryz.prog 111 #[(.pointer b)] w1 (post R fun v2 a =>
 ∃(c:Int),v2=(.int .u64 c) ∧
 R (.returned (.tuple #[(.int .u64 c),(.int .i64 0)])) a)))
theorem ok124 (d:Option Addr) (h_:Int) {w:World}{R:Ending→World→Prop} (h:F124 d h_ w R):Calls Tryz.prog 124 #[(.pointer d),(.int .u64 h_)] w R :=
 vc_calls (pl:=⟨17,⟨[]⟩,[],[]⟩) Tryz.func124 (by kernel_rfl) (by kernel_rfl) (by kernel_rfl) (Eq.mp (by kernel_rfl) h)
def F69 (d:Option Addr) (f:World) (R:Ending→World→Prop):Prop :=
 NonNil d fun p4 =>
 LdSl (f.cell? (p4.add 1)) fun h c a =>
 Calls Tryz.prog 115 #[(.slice h c a)] f (post R fun v w1 =>
 ∃(g:Option Addr) (b:Nat) (e:Nat),v=(.slice g b e) ∧
 R (.returned (.slice g b e)) w1)
theorem ok69 (d:Option Addr) {w:World}{R:Ending→World→Prop} (h:F69 d w R):Calls Tryz.prog 69 #[(.pointer d)] w R :=
 vc_calls (pl:=⟨8,⟨[]⟩,[],[]⟩) Tryz.func69 (by kernel_rfl) (by kernel_rfl) (by kernel_rfl) (Eq.mp (by kernel_rfl) h)
def F229_j15  (a:World) (R:Ending→World→Prop):Prop :=
 R (.returned (.int .i64 0)) a
def F229 (d:Option Addr) (h_:Int) (name:ByteArray) (value:ByteArray) (w_:World) (R:Ending→World→Prop):Prop :=
 Calls Tryz.prog 235 #[(.pointer d),(.int .u64 h_),(.int .i64 1)] w_ (post R fun v w1 =>
 ∃(b:Option Addr) (g:Int),v=(.tuple #[(.pointer b),(.int .i64 g)]) ∧
 Br (g != (0:Int))
 (R (.returned (.int .i64 g)) w1)
 (Calls Tryz.prog 185 #[(.string name)] w1 (post R fun v2 y =>
 ∃(ea:Bool),v2=(.bool ea) ∧
 Br (!ea)
 (R (.returned (.int .i64 6)) y)
 (Calls Tryz.prog 67 #[(.string value)] y (post R fun v3 h =>
 ∃(c:Int) (e:Int),v3=(.tuple #[(.int .i64 c),(.int .i64 e)]) ∧
 Br (e != (0:Int))
 (R (.returned (.int .i64 e)) h)
 (Calls Tryz.prog 236 #[(.pointer b),(.string name)] h (post R fun v4 q =>
 ∃(f:Int) (a:Bool),v4=(.tuple #[(.int .i64 f),(.bool a)]) ∧
 ∃J15:World→Prop,(∀ (k:World),J15 k→F229_j15 k R) ∧
 (Br a
 (NonNil b fun p59 =>
 LdSl (q.cell? (p59.add 5)) fun aa s n =>
 IdxA aa s f 2 fun ca =>
 St q (ca.add 1) (.string value) fun k =>
 J15 k)
 (NonNil b fun p68 =>
 LdSl (q.cell? (p68.add 5)) fun da u j =>
 Br (decide (((u:Nat):Int)≥(32:Int)))
 (R (.returned (.int .i64 2)) q)
 (NonNil b fun p45 =>
 LdSl (q.cell? (p45.add 5)) fun fa z m =>
 Al q #[(.string name),(.string value)] 205 fun g52 k =>
 Calls Tryz.prog 240 #[(.slice fa z m),(.int .i64 f),(.slice (some g52) 1 1)] k (post R fun v5 i =>
 ∃(ba:Option Addr) (r:Nat) (p:Nat),v5=(.slice ba r p) ∧
 NonNil b fun p54 =>
 St i (p54.add 5) (.slice ba r p) fun t =>
 J15 t)))))))))))
theorem ok229 (d:Option Addr) (h_:Int) (name:ByteArray) (value:ByteArray) {w:World}{R:Ending→World→Prop} (h:F229 d h_ name value w R):Calls Tryz.prog 229 #[(.pointer d),(.int .u64 h_),(.string name),(.string value)] w R :=
 vc_calls (pl:=⟨73,⟨[]⟩,[(15,⟨[],[(8,73)]⟩)],[]⟩) Tryz.func229 (by kernel_rfl) (by kernel_rfl) (by kernel_rfl) (Eq.mp (by kernel_rfl) h)
def F230 (d:Option Addr) (h_:Int) (name:ByteArray) (g:World) (R:Ending→World→Prop):Prop :=
 Calls Tryz.prog 235 #[(.pointer d),(.int .u64 h_),(.int .i64 1)] g (post R fun v w1 =>
 ∃(b:Option Addr) (a:Int),v=(.tuple #[(.pointer b),(.int .i64 a)]) ∧
 Br (a != (0:Int))
 (R (.returned (.int .i64 a)) w1)
 (Calls Tryz.prog 185 #[(.string name)] w1 (post R fun v2 e =>
 ∃(f:Bool),v2=(.bool f) ∧
 Br (!f)
 (R (.returned (.int .i64 6)) e)
 (NonNil b fun p25 =>
 St e (p25.add 4) (.string name) fun c =>
 R (.returned (.int .i64 0)) c))))
theorem ok230 (d:Option Addr) (h_:Int) (name:ByteArray) {w:World}{R:Ending→World→Prop} (h:F230 d h_ name w R):Calls Tryz.prog 230 #[(.pointer d),(.int .u64 h_),(.string name)] w R :=
 vc_calls (pl:=⟨27,⟨[]⟩,[],[]⟩) Tryz.func230 (by kernel_rfl) (by kernel_rfl) (by kernel_rfl) (Eq.mp (by kernel_rfl) h)
def F231 (d:Option Addr) (h_:Int) (text:ByteArray) (h:World) (R:Ending→World→Prop):Prop :=
 Calls Tryz.prog 235 #[(.pointer d),(.int .u64 h_),(.int .i64 2)] h (post R fun v w1 =>
 ∃(a:Option Addr) (e:Int),v=(.tuple #[(.pointer a),(.int .i64 e)]) ∧
 Br (e != (0:Int))
 (R (.returned (.int .i64 e)) w1)
 (Calls Tryz.prog 67 #[(.string text)] w1 (post R fun v2 g =>
 ∃(b:Int) (c:Int),v2=(.tuple #[(.int .i64 b),(.int .i64 c)]) ∧
 Br (c != (0:Int))
 (R (.returned (.int .i64 c)) g)
 (NonNil a fun p30 =>
 St g (p30.add 6) (.string text) fun f =>
 R (.returned (.int .i64 0)) f))))
theorem ok231 (d:Option Addr) (h_:Int) (text:ByteArray) {w:World}{R:Ending→World→Prop} (h:F231 d h_ text w R):Calls Tryz.prog 231 #[(.pointer d),(.int .u64 h_),(.string text)] w R :=
 vc_calls (pl:=⟨32,⟨[]⟩,[],[]⟩) Tryz.func231 (by kernel_rfl) (by kernel_rfl) (by kernel_rfl) (Eq.mp (by kernel_rfl) h)
def F65_j7 (b:Option Addr) (a:World) (R:Ending→World→Prop):Prop :=
 R (.returned (.pointer b)) a
def F65_j4 (d:Option Addr) (h_:Int) (i:World) (R:Ending→World→Prop):Prop :=
 NonNil d fun p22 =>
 LdSl (i.cell? p22) fun h a b =>
 InR .u64 ((bAnd .u64 h_ (4294967295:Int))-(1:Int))∧IdxA h a ((bAnd .u64 h_ (4294967295:Int))-(1:Int)) 1 fun e =>
 LdP (i.cell? e) fun c =>
 ∃J7:World→Prop,(∀ (w1:World),J7 w1→F65_j7 c w1 R) ∧
 (NonNil c fun p30 =>
 LdB (i.cell? (p30.add 2)) fun g =>
 Br (!g)
 (R (.returned (.pointer none)) i)
 (Calls Tryz.prog 111 #[(.pointer c)] i (post R fun v w1 =>
 ∃(f:Int),v=(.int .u64 f) ∧
 Br (f != h_)
 (R (.returned (.pointer none)) w1)
 (J7 w1))))
def F65 (d:Option Addr) (h_:Int) (e:World) (R:Ending→World→Prop):Prop :=
 ∃J4:World→Prop,(∀ (w1:World),J4 w1→F65_j4 d h_ w1 R) ∧
 (Br ((bAnd .u64 h_ (4294967295:Int)) == (0:Int))
 (R (.returned (.pointer none)) e)
 (NonNil d fun p14 =>
 LdSl (e.cell? p14) fun c b a =>
 InR .u64 (((b:Nat):Int))∧Br (decide ((bAnd .u64 h_ (4294967295:Int)) > (((b:Nat):Int))))
 (R (.returned (.pointer none)) e)
 (J4 e)))
theorem ok65 (d:Option Addr) (h_:Int) {w:World}{R:Ending→World→Prop} (h:F65 d h_ w R):Calls Tryz.prog 65 #[(.pointer d),(.int .u64 h_)] w R :=
 vc_calls (pl:=⟨41,⟨[]⟩,[(7,⟨[],[(4,5),(29,40)]⟩),(4,⟨[],[(4,5),(9,21)]⟩)],[]⟩) Tryz.func65 (by kernel_rfl) (by kernel_rfl) (by kernel_rfl) (Eq.mp (by kernel_rfl) h)
def F159_j5 (d:Option Addr) (h:World) (R:Ending→World→Prop):Prop :=
 Dr h fun w1 =>
 NonNil d fun p80 =>
 LdSl (w1.cell? p80) fun j c e =>
 NonNil d fun p84 =>
 LdI .i64 (w1.cell? (p84.add 4)) fun m =>
 IdxA j c m 1 fun n =>
 LdP (w1.cell? n) fun i =>
 NonNil i fun p90 =>
 LdI .u32 (w1.cell? (p90.add 1)) fun k =>
 InR .u32 (k+(1:Int))∧NonNil i fun p94 =>
 St w1 (p94.add 1) (.int .u32 (k+(1:Int))) fun f =>
 NonNil i fun p97 =>
 St f (p97.add 2) (.bool true) fun a =>
 NonNil d fun p100 =>
 LdI .i64 (a.cell? (p100.add 2)) fun g =>
 InR .i64 (g+(1:Int))∧NonNil d fun p104 =>
 St a (p104.add 2) (.int .i64 (g+(1:Int))) fun b =>
 R (.returned (.pointer i)) b
def F159_j3 (d:Option Addr) (s:World) (R:Ending→World→Prop):Prop :=
 ∃J5:World→Prop,(∀ (w1:World),J5 w1→F159_j5 d w1 R) ∧
 (Dr s fun w1 =>
 NonNil d fun p53 =>
 LdI .i64 (w1.cell? (p53.add 4)) fun m =>
 NonNil d fun p57 =>
 LdSl (w1.cell? p57) fun n i g =>
 Br (m == ((i:Nat):Int))
 (∃S:World→Prop,S w1.drew∧NonNil d fun p64 =>
 ∃(p:Option Addr) (k:Nat) (f:Nat),Held S p64 (.slice p k f)∧NonNil d fun p68 =>
 ∃(r:Int),Held S (p68.add 4) (.int .i64 r)∧InR .i64 (r+(1:Int))∧InR .u32 ((r+(1:Int)))∧Al w1.drew #[(.int .u32 ((r+(1:Int)))),(.int .u32 0),(.bool false),(.int .i64 0),(.string (ByteArray.mk #[])),(.slice none 0 0),(.string (ByteArray.mk #[])),(.pointer none),(.slice none 0 0)] 202 fun g74 a =>
 S a∧Al a #[(.pointer (some g74))] 152 fun g75 b =>
 S b∧Raw Tryz.prog (Builtin.append_ #[96,96] 96 #[(.slice p k f),(.slice (some g75) 1 1)]) b fun v h =>
 ∃(q:Option Addr) (e:Nat) (j:Nat),v=(.slice q e j) ∧
 NonNil d fun p77 =>
 St h p77 (.slice q e j) fun c =>
 J5 c)
 (J5 w1))
def F159_j2 (d:Option Addr) (L1:World→Prop) (a:World) (R:Ending→World→Prop):Prop :=
 NonNil d fun p46 =>
 LdI .i64 (a.cell? (p46.add 4)) fun b =>
 InR .i64 (b+(1:Int))∧NonNil d fun p50 =>
 St a (p50.add 4) (.int .i64 (b+(1:Int))) fun w1 =>
 L1 w1
def F159_l1 (d:Option Addr) (J3:World→Prop) (L1:World→Prop) (p:World) (R:Ending→World→Prop):Prop :=
 ∃J2:World→Prop,(∀ (w1:World),J2 w1→F159_j2 d L1 w1 R) ∧
 (Dr p fun w1 =>
 NonNil d fun p5 =>
 LdI .i64 (w1.cell? (p5.add 4)) fun v =>
 NonNil d fun p9 =>
 LdSl (w1.cell? p9) fun i b a =>
 Br (decide (v < ((b:Nat):Int)))
 (NonNil d fun p16 =>
 LdSl (w1.cell? p16) fun u e c =>
 NonNil d fun p20 =>
 LdI .i64 (w1.cell? (p20.add 4)) fun h =>
 IdxA u e h 1 fun q =>
 LdP (w1.cell? q) fun n =>
 NonNil n fun p25 =>
 LdB (w1.cell? (p25.add 2)) fun s =>
 Br s
 (J2 w1)
 (NonNil d fun p30 =>
 LdSl (w1.cell? p30) fun r g f =>
 NonNil d fun p34 =>
 LdI .i64 (w1.cell? (p34.add 4)) fun m =>
 IdxA r g m 1 fun k =>
 LdP (w1.cell? k) fun t =>
 NonNil t fun p39 =>
 LdI .u32 (w1.cell? (p39.add 1)) fun j =>
 Br (j == (4294967295:Int))
 (J2 w1)
 (J3 w1)))
 (J3 w1))
def F159 (d:Option Addr) (a:World) (R:Ending→World→Prop):Prop :=
 ∃J3:World→Prop,(∀ (w1:World),J3 w1→F159_j3 d w1 R) ∧
 (∃(I:World→Prop) (m:World→Nat),I  a ∧
 ∀ (w1:World),I  w1→F159_l1 d J3 (fun  w2=>I  w2∧m  w2 < m  w1)  w1 R)
theorem ok159 (d:Option Addr) {w:World}{R:Ending→World→Prop} (h:F159 d w R):Calls Tryz.prog 159 #[(.pointer d)] w R :=
 vc_calls (pl:=⟨107,⟨[]⟩,[(2,⟨[],[(4,45)]⟩),(5,⟨[],[(52,79)]⟩),(3,⟨[],[(4,52)]⟩)],[(1,⟨[],[(4,52)]⟩)]⟩) Tryz.func159 (by kernel_rfl) (by kernel_rfl) (by kernel_rfl) (Eq.mp (by kernel_rfl) h)
def F234_j9 (d:Option Addr) (n:Option Addr) (c:World) (R:Ending→World→Prop):Prop :=
 ∃S2:World→Prop,S2 c.drew∧NonNil d fun p51 =>
 ∃(e:Int),Held S2 (p51.add 4) (.int .i64 e)∧NonNil n fun p55 =>
 ∃(b:Int),Held S2 p55 (.int .u32 b)∧InR .i64 (b)∧InR .i64 ((b)-(1:Int))∧NonNil d fun p61 =>
 St c.drew (p61.add 4) (.int .i64 (if ((b)-(1:Int)) < e then ((b)-(1:Int)) else e)) fun a =>
 R (.returned (.tuple #[])) a
def F234_l1 (d:Option Addr) (n:Option Addr) (x9:Option Addr) (r:Nat) (L1:Int→World→Prop) (q:Int) (u:World) (R:Ending→World→Prop):Prop :=
 Br (decide (q < ((r:Nat):Int)))
 (IdxA x9 r q 1 fun z =>
 LdP (u.cell? z) fun ba =>
 Calls Tryz.prog 234 #[(.pointer d),(.pointer ba)] u (post R fun v w1 =>
 v=(.tuple #[]) ∧
 InR .i64 (q+(1:Int))∧L1 (q+(1:Int)) w1))
 (∃S:World→Prop,S u.drew∧NonNil n fun p21 =>
 ∃(aa:Int),Held S p21 (.int .u32 aa)∧NonNil n fun p25 =>
 ∃(y:Int),Held S (p25.add 1) (.int .u32 y)∧NonNil n fun p29 =>
 St u.drew p29 (.int .u32 aa) fun k =>
 St k (p29.add 1) (.int .u32 y) fun e =>
 St e (p29.add 2) (.bool false) fun h =>
 St h (p29.add 3) (.int .i64 0) fun g =>
 St g (p29.add 4) (.string (ByteArray.mk #[])) fun f =>
 St f (p29.add 5) (.slice none 0 0) fun i =>
 St i (p29.add 6) (.string (ByteArray.mk #[])) fun m =>
 St m (p29.add 7) (.pointer none) fun j =>
 St j (p29.add 8) (.slice none 0 0) fun a =>
 NonNil d fun p31 =>
 LdI .i64 (a.cell? (p31.add 2)) fun p =>
 InR .i64 (p-(1:Int))∧NonNil d fun p35 =>
 St a (p35.add 2) (.int .i64 (p-(1:Int))) fun b =>
 ∃J9:World→Prop,(∀ (c:World),J9 c→F234_j9 d n c R) ∧
 (NonNil n fun p38 =>
 LdI .u32 (b.cell? (p38.add 1)) fun s =>
 Br (s == (4294967295:Int))
 (NonNil d fun p43 =>
 LdI .i64 (b.cell? (p43.add 3)) fun t =>
 InR .i64 (t+(1:Int))∧NonNil d fun p47 =>
 St b (p47.add 3) (.int .i64 (t+(1:Int))) fun c =>
 J9 c)
 (J9 b)))
def F234 (d:Option Addr) (n:Option Addr) (e:World) (R:Ending→World→Prop):Prop :=
 NonNil n fun p7 =>
 LdSl (e.cell? (p7.add 8)) fun f b c =>
 ∃(I:Int→World→Prop) (m:Int→World→Nat),I (0:Int) e ∧
 ∀(a:Int) (w1:World),I a w1→F234_l1 d n f b (fun a' w2=>I a' w2∧m a' w2 < m a w1) a w1 R
theorem ok234 (d:Option Addr) (n:Option Addr) {w:World}{R:Ending→World→Prop} (h:F234 d n w R):Calls Tryz.prog 234 #[(.pointer d),(.pointer n)] w R :=
 vc_calls (pl:=⟨63,⟨[]⟩,[(9,⟨[],[(37,49)]⟩)],[(1,⟨[(11,(.s (.int .i64)))],[(5,6),(11,19)]⟩)]⟩) Tryz.func234 (by kernel_rfl) (by kernel_rfl) (by kernel_rfl) (Eq.mp (by kernel_rfl) h)
def F153 (d:Option Addr) (n:Option Addr) (a:World) (R:Ending→World→Prop):Prop :=
 Br (n).isNone
 (NonNil d fun p8 =>
 R (.returned (.pointer (some (p8.add 1)))) a)
 (NonNil n fun p11 =>
 R (.returned (.pointer (some (p11.add 8)))) a)
theorem ok153 (d:Option Addr) (n:Option Addr) {w:World}{R:Ending→World→Prop} (h:F153 d n w R):Calls Tryz.prog 153 #[(.pointer d),(.pointer n)] w R :=
 vc_calls (pl:=⟨13,⟨[]⟩,[],[]⟩) Tryz.func153 (by kernel_rfl) (by kernel_rfl) (by kernel_rfl) (Eq.mp (by kernel_rfl) h)
def F122_l8 (d:Option Addr) (pa:Option Addr) (va:Option Addr) (ia:Nat) (L8:Int→World→Prop) (qa:Int) (ua:World) (R:Ending→World→Prop):Prop :=
 Br (decide (qa < ((ia:Nat):Int)))
 (IdxA va ia qa 5 fun ya =>
 LdI .i64 (ua.cell? ya) fun ba =>
 LdStr (ua.cell? (ya.add 1)) fun fa =>
 LdSl (ua.cell? (ya.add 2)) fun j e c =>
 LdStr (ua.cell? (ya.add 3)) fun u =>
 LdSl (ua.cell? (ya.add 4)) fun aa a i =>
 Al ua #[(.int .i64 0),(.string (ByteArray.mk #[])),(.slice none 0 0),(.string (ByteArray.mk #[])),(.slice none 0 0)] 84 fun k ka =>
 St ka k (.int .i64 ba) fun m =>
 St m (k.add 1) (.string fa) fun n =>
 St n (k.add 2) (.slice j e c) fun ga =>
 St ga (k.add 3) (.string u) fun p =>
 St p (k.add 4) (.slice aa a i) fun ca =>
 ∃S2:World→Prop,S2 ca.drew∧NonNil pa fun p50 =>
 ∃(ta:Option Addr) (ha:Nat) (ja:Nat),Held S2 (p50.add 8) (.slice ta ha ja)∧∃(v:Int),Held S2 k (.int .i64 v)∧∃(r:ByteArray),Held S2 (k.add 1) (.string r)∧∃(z:Option Addr) (b:Nat) (h:Nat),Held S2 (k.add 2) (.slice z b h)∧∃(y:ByteArray),Held S2 (k.add 3) (.string y)∧∃(ea:Option Addr) (f:Nat) (g:Nat),Held S2 (k.add 4) (.slice ea f g)∧Calls Tryz.prog 122 #[(.pointer d),(.agg #[(.int .i64 v),(.string r),(.slice z b h),(.string y),(.slice ea f g)]),(.pointer pa)] ca.drew (post R fun v3 da =>
 ∃(ra:Option Addr),v3=(.pointer ra) ∧
 S2 da∧Al da #[(.pointer ra)] 152 fun g57 t =>
 S2 t∧Raw Tryz.prog (Builtin.append_ #[96,96] 96 #[(.slice ta ha ja),(.slice (some g57) 1 1)]) t fun v4 s =>
 ∃(sa:Option Addr) (na:Nat) (ma:Nat),v4=(.slice sa na ma) ∧
 NonNil pa fun p59 =>
 St s (p59.add 8) (.slice sa na ma) fun q =>
 InR .i64 (qa+(1:Int))∧L8 (qa+(1:Int)) q))
 (R (.returned (.pointer pa)) ua)
def F122 (d:Option Addr) (x_0:Int) (x_1:ByteArray) (x_2:Option Addr) (x_2N:Nat) (x_2C:Nat) (x_3:ByteArray) (x_4:Option Addr) (x_4N:Nat) (x_4C:Nat) (parent:Option Addr) (w_:World) (R:Ending→World→Prop):Prop :=
 Al w_ #[(.int .i64 x_0),(.string x_1),(.slice x_2 x_2N x_2C),(.string x_3),(.slice x_4 x_4N x_4C)] 84 fun g4 w1 =>
 Calls Tryz.prog 159 #[(.pointer d)] w1 (post R fun v q =>
 ∃(y:Option Addr),v=(.pointer y) ∧
 LdI .i64 (q.cell? g4) fun aa =>
 NonNil y fun p17 =>
 St q (p17.add 3) (.int .i64 aa) fun a =>
 NonNil y fun p19 =>
 St a (p19.add 7) (.pointer parent) fun h =>
 LdI .i64 (h.cell? g4) fun s =>
 Br (s == (2:Int))
 (LdStr (h.cell? (g4.add 3)) fun u =>
 NonNil y fun p27 =>
 St h (p27.add 6) (.string u) fun f =>
 R (.returned (.pointer y)) f)
 (∃S:World→Prop,S h.drew∧∃(t:ByteArray),Held S (g4.add 1) (.string t)∧∃(da:Option Addr) (j:Nat) (g:Nat),Held S (g4.add 2) (.slice da j g)∧Calls Tryz.prog 109 #[(.slice da j g)] h.drew (post R fun v2 b =>
 ∃(ba:Option Addr) (e:Nat) (n:Nat),v2=(.slice ba e n) ∧
 S b∧NonNil y fun p37 =>
 St b (p37.add 4) (.string t) fun k =>
 NonNil y fun p39 =>
 St k (p39.add 5) (.slice ba e n) fun r =>
 LdSl (r.cell? (g4.add 4)) fun ca i c =>
 ∃(I:Int→World→Prop) (m:Int→World→Nat),I (0:Int) r ∧
 ∀(z:Int) (p:World),I z p→F122_l8 d y ca i (fun z' w2=>I z' w2∧m z' w2 < m z p) z p R)))
theorem ok122 (d:Option Addr) (x_0:Int) (x_1:ByteArray) (x_2:Option Addr) (x_2N:Nat) (x_2C:Nat) (x_3:ByteArray) (x_4:Option Addr) (x_4N:Nat) (x_4C:Nat) (parent:Option Addr) {w:World}{R:Ending→World→Prop} (h:F122 d x_0 x_1 x_2 x_2N x_2C x_3 x_4 x_4N x_4C parent w R):Calls Tryz.prog 122 #[(.pointer d),(.agg #[(.int .i64 x_0),(.string x_1),(.slice x_2 x_2N x_2C),(.string x_3),(.slice x_4 x_4N x_4C)]),(.pointer parent)] w R :=
 vc_calls (pl:=⟨63,⟨[]⟩,[],[(8,⟨[(44,(.s (.int .i64)))],[(9,10),(44,62)]⟩)]⟩) Tryz.func122 (by kernel_rfl) (by kernel_rfl) (by kernel_rfl) (Eq.mp (by kernel_rfl) h)
def F235 (d:Option Addr) (h_:Int) (kind:Int) (c:World) (R:Ending→World→Prop):Prop :=
 Calls Tryz.prog 65 #[(.pointer d),(.int .u64 h_)] c (post R fun v w1 =>
 ∃(b:Option Addr),v=(.pointer b) ∧
 Br (b).isNone
 (R (.returned (.tuple #[(.pointer none),(.int .i64 8)])) w1)
 (NonNil b fun p17 =>
 LdI .i64 (w1.cell? (p17.add 3)) fun a =>
 Br (a != kind)
 (R (.returned (.tuple #[(.pointer none),(.int .i64 30)])) w1)
 (R (.returned (.tuple #[(.pointer b),(.int .i64 0)])) w1)))
theorem ok235 (d:Option Addr) (h_:Int) (kind:Int) {w:World}{R:Ending→World→Prop} (h:F235 d h_ kind w R):Calls Tryz.prog 235 #[(.pointer d),(.int .u64 h_),(.int .i64 kind)] w R :=
 vc_calls (pl:=⟨23,⟨[]⟩,[],[]⟩) Tryz.func235 (by kernel_rfl) (by kernel_rfl) (by kernel_rfl) (Eq.mp (by kernel_rfl) h)
def F233 (d:Option Addr) (n:Option Addr) (t:World) (R:Ending→World→Prop):Prop :=
 NonNil n fun p8 =>
 LdP (t.cell? (p8.add 7)) fun m =>
 Calls Tryz.prog 153 #[(.pointer d),(.pointer m)] t (post R fun v w1 =>
 ∃(p:Option Addr),v=(.pointer p) ∧
 NonNil p fun p13 =>
 LdSl (w1.cell? p13) fun s i e =>
 Calls Tryz.prog 160 #[(.slice s i e),(.pointer n)] w1 (post R fun v2 j =>
 ∃(r:Int),v2=(.int .i64 r) ∧
 NonNil p fun p19 =>
 LdSl (j.cell? p19) fun q g a =>
 InR .i64 (r+(1:Int))∧Calls Tryz.prog 241 #[(.slice q g a),(.int .i64 r),(.int .i64 (r+(1:Int)))] j (post R fun v3 b =>
 ∃(k:Option Addr) (c:Nat) (h:Nat),v3=(.slice k c h) ∧
 NonNil p fun p25 =>
 St b p25 (.slice k c h) fun f =>
 R (.returned (.tuple #[])) f)))
theorem ok233 (d:Option Addr) (n:Option Addr) {w:World}{R:Ending→World→Prop} (h:F233 d n w R):Calls Tryz.prog 233 #[(.pointer d),(.pointer n)] w R :=
 vc_calls (pl:=⟨26,⟨[]⟩,[],[]⟩) Tryz.func233 (by kernel_rfl) (by kernel_rfl) (by kernel_rfl) (Eq.mp (by kernel_rfl) h)
def F121_j5 (at_:Option Addr) (a:World) (R:Ending→World→Prop):Prop :=
 R (.returned (.tuple #[(.pointer at_),(.int .i64 0)])) a
def F121 (d:Option Addr) (where_:Int) (at_:Option Addr) (c:World) (R:Ending→World→Prop):Prop :=
 ∃J5:World→Prop,(∀ (w1:World),J5 w1→F121_j5 at_ w1 R) ∧
 (Br (decide (where_ > (2:Int)))
 (NonNil at_ fun p12 =>
 LdP (c.cell? (p12.add 7)) fun b =>
 R (.returned (.tuple #[(.pointer b),(.int .i64 0)])) c)
 (Br (!(at_).isNone)
 (NonNil at_ fun p20 =>
 LdI .i64 (c.cell? (p20.add 3)) fun a =>
 Br (a == (2:Int))
 (R (.returned (.tuple #[(.pointer none),(.int .i64 31)])) c)
 (J5 c))
 (J5 c)))
theorem ok121 (d:Option Addr) (where_:Int) (at_:Option Addr) {w:World}{R:Ending→World→Prop} (h:F121 d where_ at_ w R):Calls Tryz.prog 121 #[(.pointer d),(.int .i64 where_),(.pointer at_)] w R :=
 vc_calls (pl:=⟨26,⟨[]⟩,[(5,⟨[],[(6,25)]⟩)],[]⟩) Tryz.func121 (by kernel_rfl) (by kernel_rfl) (by kernel_rfl) (Eq.mp (by kernel_rfl) h)
def F123_j9 (n:Option Addr) (parent:Option Addr) (m:Option Addr) (i:Int) (p:World) (R:Ending→World→Prop):Prop :=
 NonNil m fun p39 =>
 LdSl (p.cell? p39) fun j c h =>
 Al p #[(.pointer n)] 152 fun g43 f =>
 Calls Tryz.prog 161 #[(.slice j c h),(.int .i64 i),(.slice (some g43) 1 1)] f (post R fun v2 a =>
 ∃(k:Option Addr) (d:Nat) (e:Nat),v2=(.slice k d e) ∧
 NonNil m fun p45 =>
 St a p45 (.slice k d e) fun b =>
 NonNil n fun p48 =>
 St b (p48.add 7) (.pointer parent) fun g =>
 R (.returned (.tuple #[])) g)
def F123 (d:Option Addr) (n:Option Addr) (parent:Option Addr) (where_:Int) (at_:Option Addr) (s:World) (R:Ending→World→Prop):Prop :=
 Calls Tryz.prog 153 #[(.pointer d),(.pointer parent)] s (post R fun v w1 =>
 ∃(r:Option Addr),v=(.pointer r) ∧
 ∃J9:Int→World→Prop,(∀(i:Int) (f:World),J9 i f→F123_j9 n parent r i f R) ∧
 (Br (where_ == (2:Int))
 (NonNil r fun p19 =>
 LdSl (w1.cell? p19) fun q b a =>
 J9 ((b:Nat):Int) w1)
 (Br (where_ == (3:Int))
 (NonNil r fun p25 =>
 LdSl (w1.cell? p25) fun m c e =>
 Calls Tryz.prog 160 #[(.slice m c e),(.pointer at_)] w1 (post R fun v2 f =>
 ∃(j:Int),v2=(.int .i64 j) ∧
 J9 j f))
 (Br (where_ == (4:Int))
 (NonNil r fun p32 =>
 LdSl (w1.cell? p32) fun k h g =>
 Calls Tryz.prog 160 #[(.slice k h g),(.pointer at_)] w1 (post R fun v2 f =>
 ∃(p:Int),v2=(.int .i64 p) ∧
 InR .i64 (p+(1:Int))∧J9 (p+(1:Int)) f))
 (J9 (0:Int) w1)))))
theorem ok123 (d:Option Addr) (n:Option Addr) (parent:Option Addr) (where_:Int) (at_:Option Addr) {w:World}{R:Ending→World→Prop} (h:F123 d n parent where_ at_ w R):Calls Tryz.prog 123 #[(.pointer d),(.pointer n),(.pointer parent),(.int .i64 where_),(.pointer at_)] w R :=
 vc_calls (pl:=⟨50,⟨[]⟩,[(9,⟨[(11,(.s (.int .i64)))],[(11,37)]⟩)],[]⟩) Tryz.func123 (by kernel_rfl) (by kernel_rfl) (by kernel_rfl) (Eq.mp (by kernel_rfl) h)
def F120_l11 (l:Option Addr) (deep:Int) (fa:Option Addr) (da:Nat) (L11:Int→World→Prop) (ja:Int) (ha:World) (R:Ending→World→Prop):Prop :=
 Br (decide (ja < ((da:Nat):Int)))
 (IdxA fa da ja 5 fun ia =>
 LdI .i64 (ha.cell? ia) fun q =>
 LdStr (ha.cell? (ia.add 1)) fun n =>
 LdSl (ha.cell? (ia.add 2)) fun t d c =>
 LdStr (ha.cell? (ia.add 3)) fun s =>
 LdSl (ha.cell? (ia.add 4)) fun r a e =>
 Al ha #[(.int .i64 0),(.string (ByteArray.mk #[])),(.slice none 0 0),(.string (ByteArray.mk #[])),(.slice none 0 0)] 84 fun k aa =>
 St aa k (.int .i64 q) fun z =>
 St z (k.add 1) (.string n) fun ba =>
 St ba (k.add 2) (.slice t d c) fun ea =>
 St ea (k.add 3) (.string s) fun ca =>
 St ca (k.add 4) (.slice r a e) fun j =>
 LdI .i64 (j.cell? k) fun p =>
 LdStr (j.cell? (k.add 1)) fun i =>
 LdSl (j.cell? (k.add 2)) fun y b h =>
 LdStr (j.cell? (k.add 3)) fun v =>
 LdSl (j.cell? (k.add 4)) fun u f g =>
 InR .i64 (deep+(1:Int))∧Calls Tryz.prog 120 #[(.pointer l),(.agg #[(.int .i64 p),(.string i),(.slice y b h),(.string v),(.slice u f g)]),(.int .i64 (deep+(1:Int)))] j (post R fun v2 m =>
 ∃(ga:Int),v2=(.int .i64 ga) ∧
 Br (ga != (0:Int))
 (R (.returned (.int .i64 ga)) m)
 (InR .i64 (ja+(1:Int))∧L11 (ja+(1:Int)) m)))
 (R (.returned (.int .i64 0)) ha)
def F120_j3 (l:Option Addr) (deep:Int) (g4:Addr) (z:World) (R:Ending→World→Prop):Prop :=
 LdI .i64 (z.cell? g4) fun i =>
 LdStr (z.cell? (g4.add 1)) fun e =>
 LdSl (z.cell? (g4.add 2)) fun h b c =>
 LdStr (z.cell? (g4.add 3)) fun f =>
 LdSl (z.cell? (g4.add 4)) fun g d a =>
 Calls Tryz.prog 152 #[(.agg #[(.int .i64 i),(.string e),(.slice h b c),(.string f),(.slice g d a)])] z (post R fun v q =>
 ∃(s:Int),v=(.int .i64 s) ∧
 Br (s != (0:Int))
 (R (.returned (.int .i64 s)) q)
 (NonNil l fun p26 =>
 LdI .i64 (q.cell? p26) fun t =>
 InR .i64 (t+(1:Int))∧NonNil l fun p30 =>
 St q p30 (.int .i64 (t+(1:Int))) fun j =>
 NonNil l fun p34 =>
 LdI .i64 (j.cell? (p34.add 1)) fun u =>
 NonNil l fun p39 =>
 St j (p39.add 1) (.int .i64 (if deep > u then deep else u)) fun p =>
 LdI .i64 (p.cell? g4) fun aa =>
 Br (aa == (2:Int))
 (R (.returned (.int .i64 0)) p)
 (LdSl (p.cell? (g4.add 4)) fun y r k =>
 ∃(I:Int→World→Prop) (m:Int→World→Nat),I (0:Int) p ∧
 ∀(ba:Int) (n:World),I ba n→F120_l11 l deep y r (fun ba' w2=>I ba' w2∧m ba' w2 < m ba n) ba n R)))
def F120 (l:Option Addr) (x_0:Int) (x_1:ByteArray) (x_2:Option Addr) (x_2N:Nat) (x_2C:Nat) (x_3:ByteArray) (x_4:Option Addr) (x_4N:Nat) (x_4C:Nat) (deep:Int) (c:World) (R:Ending→World→Prop):Prop :=
 Al c #[(.int .i64 x_0),(.string x_1),(.slice x_2 x_2N x_2C),(.string x_3),(.slice x_4 x_4N x_4C)] 84 fun g4 w1 =>
 ∃J3:World→Prop,(∀ (a:World),J3 a→F120_j3 l deep g4 a R) ∧
 (Br (decide (deep > (64:Int)))
 (R (.returned (.int .i64 2)) w1)
 (NonNil l fun p15 =>
 LdI .i64 (w1.cell? p15) fun b =>
 Br (decide (b≥(4096:Int)))
 (R (.returned (.int .i64 2)) w1)
 (J3 w1)))
theorem ok120 (l:Option Addr) (x_0:Int) (x_1:ByteArray) (x_2:Option Addr) (x_2N:Nat) (x_2C:Nat) (x_3:ByteArray) (x_4:Option Addr) (x_4N:Nat) (x_4C:Nat) (deep:Int) {w:World}{R:Ending→World→Prop} (h:F120 l x_0 x_1 x_2 x_2N x_2C x_3 x_4 x_4N x_4C deep w R):Calls Tryz.prog 120 #[(.pointer l),(.agg #[(.int .i64 x_0),(.string x_1),(.slice x_2 x_2N x_2C),(.string x_3),(.slice x_4 x_4N x_4C)]),(.int .i64 deep)] w R :=
 vc_calls (pl:=⟨60,⟨[]⟩,[(3,⟨[],[(6,20)]⟩)],[(11,⟨[(47,(.s (.int .i64)))],[(6,11),(47,60)]⟩)]⟩) Tryz.func120 (by kernel_rfl) (by kernel_rfl) (by kernel_rfl) (Eq.mp (by kernel_rfl) h)
def F236 (n:Option Addr) (name:ByteArray) (e:World) (R:Ending→World→Prop):Prop :=
 NonNil n fun p7 =>
 LdSl (e.cell? (p7.add 5)) fun f c d =>
 Calls Tryz.prog 242 #[(.slice f c d),(.string name),(.func (.func 243) #[] #[])] e (post R fun v w1 =>
 ∃(b:Int) (a:Bool),v=(.tuple #[(.int .i64 b),(.bool a)]) ∧
 R (.returned (.tuple #[(.int .i64 b),(.bool a)])) w1)
theorem ok236 (n:Option Addr) (name:ByteArray) {w:World}{R:Ending→World→Prop} (h:F236 n name w R):Calls Tryz.prog 236 #[(.pointer n),(.string name)] w R :=
 vc_calls (pl:=⟨14,⟨[]⟩,[],[]⟩) Tryz.func236 (by kernel_rfl) (by kernel_rfl) (by kernel_rfl) (Eq.mp (by kernel_rfl) h)
def F243 (a_0:ByteArray) (a_1:ByteArray) (s:ByteArray) (c:World) (R:Ending→World→Prop):Prop :=
 Al c #[(.string a_0),(.string a_1)] 205 fun a w1 =>
 LdStr (w1.cell? a) fun d =>
 Calls Tryz.prog 93 #[(.string d),(.string s)] w1 (post R fun v b =>
 ∃(e:Int),v=(.int .i64 e) ∧
 R (.returned (.int .i64 e)) b)
theorem ok243 (a_0:ByteArray) (a_1:ByteArray) (s:ByteArray) {w:World}{R:Ending→World→Prop} (h:F243 a_0 a_1 s w R):Calls Tryz.prog 243 #[(.agg #[(.string a_0),(.string a_1)]),(.string s)] w R :=
 vc_calls (pl:=⟨9,⟨[]⟩,[],[]⟩) Tryz.func243 (by kernel_rfl) (by kernel_rfl) (by kernel_rfl) (Eq.mp (by kernel_rfl) h)
def F239_l3 (g:Option Addr) (c:Nat) (L3:Int→Int→World→Prop) (most:Int) (b:Int) (f:World) (R:Ending→World→Prop):Prop :=
 Br (decide (b < ((c:Nat):Int)))
 (IdxA g c b 1 fun a =>
 LdP (f.cell? a) fun e =>
 Calls Tryz.prog 239 #[(.pointer e)] f (post R fun v w1 =>
 ∃(d:Int),v=(.int .i64 d) ∧
 InR .i64 (b+(1:Int))∧L3 (if d > most then d else most) (b+(1:Int)) w1))
 (InR .i64 (most+(1:Int))∧R (.returned (.int .i64 (most+(1:Int)))) f)
def F239 (n:Option Addr) (d:World) (R:Ending→World→Prop):Prop :=
 NonNil n fun p7 =>
 LdSl (d.cell? (p7.add 8)) fun e b c =>
 ∃(I:Int→Int→World→Prop) (m:Int→Int→World→Nat),I (0:Int) (0:Int) d ∧
 ∀(most:Int) (a:Int) (w1:World),I most a w1→F239_l3 e b (fun most' a' w2=>I most' a' w2∧m most' a' w2 < m most a w1) most a w1 R
theorem ok239 (n:Option Addr) {w:World}{R:Ending→World→Prop} (h:F239 n w R):Calls Tryz.prog 239 #[(.pointer n)] w R :=
 vc_calls (pl:=⟨22,⟨[]⟩,[],[(3,⟨[(3,(.s (.int .i64))),(11,(.s (.int .i64)))],[(3,6),(11,20)]⟩)]⟩) Tryz.func239 (by kernel_rfl) (by kernel_rfl) (by kernel_rfl) (Eq.mp (by kernel_rfl) h)
def F111 (n:Option Addr) (b:World) (R:Ending→World→Prop):Prop :=
 Br (n).isNone
 (R (.returned (.int .u64 0)) b)
 (Dr b fun w1 =>
 NonNil n fun p6 =>
 LdI .u32 (w1.cell? (p6.add 1)) fun c =>
 InR .u64 (c)∧InR .u64 ((c)*(2 ^ (min ((32:Int)).toNat 64)))∧NonNil n fun p12 =>
 LdI .u32 (w1.cell? p12) fun a =>
 InR .u64 (a)∧R (.returned (.int .u64 (bOr .u64 ((c)*(2 ^ (min ((32:Int)).toNat 64))) (a)))) w1)
theorem ok111 (n:Option Addr) {w:World}{R:Ending→World→Prop} (h:F111 n w R):Calls Tryz.prog 111 #[(.pointer n)] w R :=
 vc_calls (pl:=⟨17,⟨[]⟩,[],[]⟩) Tryz.func111 (by kernel_rfl) (by kernel_rfl) (by kernel_rfl) (Eq.mp (by kernel_rfl) h)
def F66 (n:Option Addr) (r:World) (R:Ending→World→Prop):Prop :=
 Al r #[(.int .i64 0),(.string (ByteArray.mk #[])),(.slice none 0 0),(.string (ByteArray.mk #[])),(.slice none 0 0)] 84 fun g2 w1 =>
 ∃S:World→Prop,S w1.drew∧NonNil n fun p4 =>
 ∃(s:Int),Held S (p4.add 3) (.int .i64 s)∧NonNil n fun p8 =>
 ∃(m:ByteArray),Held S (p8.add 4) (.string m)∧NonNil n fun p12 =>
 ∃(p:Option Addr) (h:Nat) (c:Nat),Held S (p12.add 5) (.slice p h c)∧NonNil n fun p17 =>
 ∃(q:ByteArray),Held S (p17.add 6) (.string q)∧Calls Tryz.prog 109 #[(.slice p h c)] w1.drew (post R fun v a =>
 ∃(k:Option Addr) (d:Nat) (e:Nat),v=(.slice k d e) ∧
 S a∧St a g2 (.int .i64 s) fun b =>
 St b (g2.add 1) (.string m) fun i =>
 St i (g2.add 2) (.slice k d e) fun f =>
 St f (g2.add 3) (.string q) fun g =>
 St g (g2.add 4) (.slice none 0 0) fun j =>
 LdI .i64 (j.cell? g2) fun res0_0 =>
 LdStr (j.cell? (g2.add 1)) fun res0_1 =>
 LdSl (j.cell? (g2.add 2)) fun res0_2 res0_2N res0_2C =>
 LdStr (j.cell? (g2.add 3)) fun res0_3 =>
 LdSl (j.cell? (g2.add 4)) fun res0_4 res0_4N res0_4C =>
 R (.returned (.agg #[(.int .i64 res0_0),(.string res0_1),(.slice res0_2 res0_2N res0_2C),(.string res0_3),(.slice res0_4 res0_4N res0_4C)])) j)
theorem ok66 (n:Option Addr) {w:World}{R:Ending→World→Prop} (h:F66 n w R):Calls Tryz.prog 66 #[(.pointer n)] w R :=
 vc_calls (pl:=⟨21,⟨[]⟩,[],[]⟩) Tryz.func66 (by kernel_rfl) (by kernel_rfl) (by kernel_rfl) (Eq.mp (by kernel_rfl) h)
def F238_j3 (o:Option Addr) (n2:Option Addr) (a:World) (R:Ending→World→Prop):Prop :=
 PtrOk a n2 o∧R (.returned (.bool (decide (n2=o)))) a
def F238_j2 (L1:Option Addr→World→Prop) (n2:Option Addr) (b:World) (R:Ending→World→Prop):Prop :=
 NonNil n2 fun p13 =>
 LdP (b.cell? (p13.add 7)) fun a =>
 L1 a b
def F238_l1 (o:Option Addr) (J3:Option Addr→World→Prop) (L1:Option Addr→World→Prop) (n2:Option Addr) (a:World) (R:Ending→World→Prop):Prop :=
 ∃J2:World→Prop,(∀ (w1:World),J2 w1→F238_j2 L1 n2 w1 R) ∧
 (Br (!(n2).isNone)
 (PtrOk a n2 o∧Br (!(decide (n2=o)))
 (J2 a)
 (J3 n2 a))
 (J3 n2 a))
def F238 (n:Option Addr) (o:Option Addr) (a:World) (R:Ending→World→Prop):Prop :=
 ∃J3:Option Addr→World→Prop,(∀(n2:Option Addr) (w1:World),J3 n2 w1→F238_j3 o n2 w1 R) ∧
 (∃(I:Option Addr→World→Prop) (m:Option Addr→World→Nat),I n a ∧
 ∀(n2:Option Addr) (w1:World),I n2 w1→F238_l1 o J3 (fun n2' w2=>I n2' w2∧m n2' w2 < m n2 w1) n2 w1 R)
theorem ok238 (n:Option Addr) (o:Option Addr) {w:World}{R:Ending→World→Prop} (h:F238 n o w R):Calls Tryz.prog 238 #[(.pointer n),(.pointer o)] w R :=
 vc_calls (pl:=⟨19,⟨[]⟩,[(2,⟨[],[(5,12)]⟩),(3,⟨[(0,(.s .ptr))],[(0,1),(5,16)]⟩)],[(1,⟨[(0,(.s .ptr))],[(0,1),(5,16)]⟩)]⟩) Tryz.func238 (by kernel_rfl) (by kernel_rfl) (by kernel_rfl) (Eq.mp (by kernel_rfl) h)
def F96_l2 (l:Option Addr) (lN:Nat) (L2:Option Addr→Nat→Nat→Int→World→Prop) (out2:Option Addr) (outN2:Nat) (outC2:Nat) (t:Int) (s:World) (R:Ending→World→Prop):Prop :=
 Br (decide (t < ((lN:Nat):Int)))
 (IdxA l lN t 1 fun p =>
 LdP (s.cell? p) fun m =>
 ∃S:World→Prop,S s.drew∧NonNil m fun p14 =>
 ∃(r:Option Addr) (a:Nat) (e:Nat),Held S (p14.add 8) (.slice r a e)∧Calls Tryz.prog 111 #[(.pointer m)] s.drew (post R fun v f =>
 ∃(q:Int),v=(.int .u64 q) ∧
 S f∧Al f #[(.int .u64 q)] 65 fun g20 b =>
 S b∧Raw Tryz.prog (Builtin.append_ #[23,23] 23 #[(.slice out2 outN2 outC2),(.slice (some g20) 1 1)]) b fun v2 c =>
 ∃(n:Option Addr) (h:Nat) (d:Nat),v2=(.slice n h d) ∧
 S c∧Calls Tryz.prog 96 #[(.slice r a e),(.slice n h d)] c (post R fun v3 g =>
 ∃(k:Option Addr) (j:Nat) (i:Nat),v3=(.slice k j i) ∧
 InR .i64 (t+(1:Int))∧L2 k j i (t+(1:Int)) g)))
 (R (.returned (.slice out2 outN2 outC2)) s)
def F96 (l:Option Addr) (lN:Nat) (lC:Nat) (out:Option Addr) (outN:Nat) (outC:Nat) (a:World) (R:Ending→World→Prop):Prop :=
 ∃(I:Option Addr→Nat→Nat→Int→World→Prop) (m:Option Addr→Nat→Nat→Int→World→Nat),I out outN outC (0:Int) a ∧
 ∀(out2:Option Addr) (outN2:Nat) (outC2:Nat) (b:Int) (w1:World),I out2 outN2 outC2 b w1→F96_l2 l lN (fun out2' outN2' outC2' b' w2=>I out2' outN2' outC2' b' w2∧m out2' outN2' outC2' b' w2 < m out2 outN2 outC2 b w1) out2 outN2 outC2 b w1 R
theorem ok96 (l:Option Addr) (lN:Nat) (lC:Nat) (out:Option Addr) (outN:Nat) (outC:Nat) {w:World}{R:Ending→World→Prop} (h:F96 l lN lC out outN outC w R):Calls Tryz.prog 96 #[(.slice l lN lC),(.slice out outN outC)] w R :=
 vc_calls (pl:=⟨25,⟨[]⟩,[],[(2,⟨[(1,(.s .slice)),(9,(.s (.int .i64)))],[(1,7),(9,24)]⟩)]⟩) Tryz.func96 (by kernel_rfl) (by kernel_rfl) (by kernel_rfl) (Eq.mp (by kernel_rfl) h)
def F186_j8 (L4:Int→World→Prop) (f:Int) (a:Addr) (e:World) (R:Ending→World→Prop):Prop :=
 LdStr (e.cell? (a.add 1)) fun g =>
 Calls Tryz.prog 67 #[(.string g)] e (post R fun v d =>
 ∃(c:Int) (b:Int),v=(.tuple #[(.int .i64 c),(.int .i64 b)]) ∧
 Br (b != (0:Int))
 (R (.returned (.int .i64 b)) d)
 (InR .i64 (f+(1:Int))∧L4 (f+(1:Int)) d))
def F186_l4 (l:Option Addr) (lN:Nat) (L4:Int→World→Prop) (i:Int) (j:World) (R:Ending→World→Prop):Prop :=
 Br (decide (i < ((lN:Nat):Int)))
 (IdxA l lN i 2 fun q =>
 LdStr (j.cell? q) fun b =>
 LdStr (j.cell? (q.add 1)) fun c =>
 Al j #[(.string (ByteArray.mk #[])),(.string (ByteArray.mk #[]))] 205 fun a w1 =>
 St w1 a (.string b) fun f =>
 St f (a.add 1) (.string c) fun d =>
 ∃J8:World→Prop,(∀ (e:World),J8 e→F186_j8 L4 i a e R) ∧
 (∃S:World→Prop,S d.drew∧∃(p:ByteArray),Held S a (.string p)∧Calls Tryz.prog 185 #[(.string p)] d.drew (post R fun v g =>
 ∃(m:Bool),v=(.bool m) ∧
 S g∧Br (!m)
 (R (.returned (.int .i64 6)) g)
 (Br (decide (i > (0:Int)))
 (∃(k:ByteArray),Held S a (.string k)∧InR .i64 (i-(1:Int))∧IdxA l lN (i-(1:Int)) 2 fun h =>
 ∃(n:ByteArray),Held S h (.string n)∧Br ((Op.bytesLess k.toList n.toList) || (k.toList == n.toList))
 (R (.returned (.int .i64 6)) g)
 (J8 g))
 (J8 g)))))
 (R (.returned (.int .i64 0)) j)
def F186 (l:Option Addr) (lN:Nat) (lC:Nat) (b:World) (R:Ending→World→Prop):Prop :=
 Br (decide (((lN:Nat):Int) > (32:Int)))
 (R (.returned (.int .i64 2)) b)
 (∃(I:Int→World→Prop) (m:Int→World→Nat),I (0:Int) b ∧
 ∀(a:Int) (w1:World),I a w1→F186_l4 l lN (fun a' w2=>I a' w2∧m a' w2 < m a w1) a w1 R)
theorem ok186 (l:Option Addr) (lN:Nat) (lC:Nat) {w:World}{R:Ending→World→Prop} (h:F186 l lN lC w R):Calls Tryz.prog 186 #[(.slice l lN lC)] w R :=
 vc_calls (pl:=⟨46,⟨[]⟩,[(8,⟨[],[(2,3),(17,36)]⟩)],[(4,⟨[(12,(.s (.int .i64)))],[(2,7),(12,46)]⟩)]⟩) Tryz.func186 (by kernel_rfl) (by kernel_rfl) (by kernel_rfl) (Eq.mp (by kernel_rfl) h)
def F115_l3 (l:Option Addr) (lN:Nat) (L3:Option Addr→Nat→Nat→Int→World→Prop) (out:Option Addr) (outN:Nat) (outC:Nat) (g:Int) (k:World) (R:Ending→World→Prop):Prop :=
 Br (decide (g < ((lN:Nat):Int)))
 (IdxA l lN g 1 fun f =>
 LdP (k.cell? f) fun j =>
 Calls Tryz.prog 111 #[(.pointer j)] k (post R fun v d =>
 ∃(i:Int),v=(.int .u64 i) ∧
 Al d #[(.int .u64 i)] 65 fun g18 b =>
 Raw Tryz.prog (Builtin.append_ #[23,23] 23 #[(.slice out outN outC),(.slice (some g18) 1 1)]) b fun v2 c =>
 ∃(h:Option Addr) (e:Nat) (a:Nat),v2=(.slice h e a) ∧
 InR .i64 (g+(1:Int))∧L3 h e a (g+(1:Int)) c))
 (R (.returned (.slice out outN outC)) k)
def F115 (l:Option Addr) (lN:Nat) (lC:Nat) (c:World) (R:Ending→World→Prop):Prop :=
 0≤(0:Int)∧(0:Int)≤((lN:Nat):Int)∧((8:Nat):Int)*((lN:Nat):Int)≤281474976710656∧Al c (zrow #[(.int .u64 0)] ((((lN:Nat):Int)).toNat*1)) 65 fun g8 w1 =>
 ∃(I:Option Addr→Nat→Nat→Int→World→Prop) (m:Option Addr→Nat→Nat→Int→World→Nat),I (some g8) ((0:Int)).toNat (((lN:Nat):Int)).toNat (0:Int) w1 ∧
 ∀(out:Option Addr) (outN:Nat) (outC:Nat) (b:Int) (a:World),I out outN outC b a→F115_l3 l lN (fun out' outN' outC' b' w2=>I out' outN' outC' b' w2∧m out' outN' outC' b' w2 < m out outN outC b a) out outN outC b a R
theorem ok115 (l:Option Addr) (lN:Nat) (lC:Nat) {w:World}{R:Ending→World→Prop} (h:F115 l lN lC w R):Calls Tryz.prog 115 #[(.slice l lN lC)] w R :=
 vc_calls (pl:=⟨22,⟨[]⟩,[],[(3,⟨[(3,(.s .slice)),(11,(.s (.int .i64)))],[(3,6),(11,21)]⟩)]⟩) Tryz.func115 (by kernel_rfl) (by kernel_rfl) (by kernel_rfl) (Eq.mp (by kernel_rfl) h)
def F108_l2 (L2:Option Addr→Int→World→Prop) (n2:Option Addr) (i:Int) (a:World) (R:Ending→World→Prop):Prop :=
 Br (!(n2).isNone)
 (InR .i64 (i+(1:Int))∧NonNil n2 fun p7 =>
 LdP (a.cell? (p7.add 7)) fun b =>
 L2 b (i+(1:Int)) a)
 (R (.returned (.int .i64 i)) a)
def F108 (n:Option Addr) (a:World) (R:Ending→World→Prop):Prop :=
 ∃(I:Option Addr→Int→World→Prop) (m:Option Addr→Int→World→Nat),I n ((-1):Int) a ∧
 ∀(n2:Option Addr) (i:Int) (w1:World),I n2 i w1→F108_l2 (fun n2' i' w2=>I n2' i' w2∧m n2' i' w2 < m n2 i w1) n2 i w1 R
theorem ok108 (n:Option Addr) {w:World}{R:Ending→World→Prop} (h:F108 n w R):Calls Tryz.prog 108 #[(.pointer n)] w R :=
 vc_calls (pl:=⟨13,⟨[]⟩,[],[(2,⟨[(0,(.s .ptr)),(3,(.s (.int .i64)))],[(0,12)]⟩)]⟩) Tryz.func108 (by kernel_rfl) (by kernel_rfl) (by kernel_rfl) (Eq.mp (by kernel_rfl) h)
def F152 (x_0:Int) (x_1:ByteArray) (x_2:Option Addr) (x_2N:Nat) (x_2C:Nat) (x_3:ByteArray) (x_4:Option Addr) (x_4N:Nat) (x_4C:Nat) (m:World) (R:Ending→World→Prop):Prop :=
 Al m #[(.int .i64 x_0),(.string x_1),(.slice x_2 x_2N x_2C),(.string x_3),(.slice x_4 x_4N x_4C)] 84 fun g1 w1 =>
 LdI .i64 (w1.cell? g1) fun n =>
 Br (n == (1:Int))
 (LdStr (w1.cell? (g1.add 1)) fun h =>
 Calls Tryz.prog 185 #[(.string h)] w1 (post R fun v e =>
 ∃(i:Bool),v=(.bool i) ∧
 Br (!i)
 (R (.returned (.int .i64 6)) e)
 (LdSl (e.cell? (g1.add 2)) fun k f d =>
 Calls Tryz.prog 186 #[(.slice k f d)] e (post R fun v2 c =>
 ∃(g:Int),v2=(.int .i64 g) ∧
 R (.returned (.int .i64 g)) c))))
 (Br (n == (2:Int))
 (LdStr (w1.cell? (g1.add 3)) fun j =>
 Calls Tryz.prog 67 #[(.string j)] w1 (post R fun v e =>
 ∃(b:Int) (a:Int),v=(.tuple #[(.int .i64 b),(.int .i64 a)]) ∧
 R (.returned (.int .i64 a)) e))
 (R (.returned (.int .i64 1)) w1))
theorem ok152 (x_0:Int) (x_1:ByteArray) (x_2:Option Addr) (x_2N:Nat) (x_2C:Nat) (x_3:ByteArray) (x_4:Option Addr) (x_4N:Nat) (x_4C:Nat) {w:World}{R:Ending→World→Prop} (h:F152 x_0 x_1 x_2 x_2N x_2C x_3 x_4 x_4N x_4C w R):Calls Tryz.prog 152 #[(.agg #[(.int .i64 x_0),(.string x_1),(.slice x_2 x_2N x_2C),(.string x_3),(.slice x_4 x_4N x_4C)])] w R :=
 vc_calls (pl:=⟨25,⟨[]⟩,[],[]⟩) Tryz.func152 (by kernel_rfl) (by kernel_rfl) (by kernel_rfl) (Eq.mp (by kernel_rfl) h)
def F119 (where_:Int) (at_:Int) (a:World) (R:Ending→World→Prop):Prop :=
 Br (decide (where_≥(1:Int)))
 (Br (decide (where_≤(4:Int)))
 (Br (at_ != (0:Int))
 (R (.returned (.bool true)) a)
 (R (.returned (.bool (decide (where_≤(2:Int))))) a))
 (R (.returned (.bool false)) a))
 (R (.returned (.bool false)) a)
theorem ok119 (where_:Int) (at_:Int) {w:World}{R:Ending→World→Prop} (h:F119 where_ at_ w R):Calls Tryz.prog 119 #[(.int .i64 where_),(.int .u64 at_)] w R :=
 vc_calls (pl:=⟨19,⟨[]⟩,[],[]⟩) Tryz.func119 (by kernel_rfl) (by kernel_rfl) (by kernel_rfl) (Eq.mp (by kernel_rfl) h)
def F242_l3 (x:Option Addr) (xN:Nat) (target:ByteArray) (cmp:Value) (L3:Int→Int→World→Prop) (i:Int) (j:Int) (k:World) (R:Ending→World→Prop):Prop :=
 Br (decide (i < j))
 (InR .i64 (i+j)∧InR .u64 ((i+j))∧InR .i64 ((((i+j)).fdiv (2 ^ (min ((1:Int)).toNat 64))))∧IdxA x xN ((((i+j)).fdiv (2 ^ (min ((1:Int)).toNat 64)))) 2 fun f =>
 LdStr (k.cell? f) fun c =>
 LdStr (k.cell? (f.add 1)) fun d =>
 CallV Tryz.prog cmp #[(.agg #[(.string c),(.string d)]),(.string target)] k R (fun v w1 =>
 ∃(g:Int),v=(.int .i64 g) ∧
 Br (decide (g < (0:Int)))
 (InR .i64 (((((i+j)).fdiv (2 ^ (min ((1:Int)).toNat 64))))+(1:Int))∧L3 (((((i+j)).fdiv (2 ^ (min ((1:Int)).toNat 64))))+(1:Int)) j w1)
 (L3 i ((((i+j)).fdiv (2 ^ (min ((1:Int)).toNat 64)))) w1)))
 (Br (decide (i < ((xN:Nat):Int)))
 (IdxA x xN i 2 fun e =>
 LdStr (k.cell? e) fun a =>
 LdStr (k.cell? (e.add 1)) fun b =>
 CallV Tryz.prog cmp #[(.agg #[(.string a),(.string b)]),(.string target)] k R (fun v w1 =>
 ∃(h:Int),v=(.int .i64 h) ∧
 R (.returned (.tuple #[(.int .i64 i),(.bool (h == (0:Int)))])) w1))
 (R (.returned (.tuple #[(.int .i64 i),(.bool false)])) k))
def F242 (x:Option Addr) (xN:Nat) (xC:Nat) (target:ByteArray) (cmp:Value) (a:World) (R:Ending→World→Prop):Prop :=
 ∃(I:Int→Int→World→Prop) (m:Int→Int→World→Nat),I (0:Int) ((xN:Nat):Int) a ∧
 ∀(i:Int) (j:Int) (w1:World),I i j w1→F242_l3 x xN target cmp (fun i' j' w2=>I i' j' w2∧m i' j' w2 < m i j w1) i j w1 R
theorem ok242 (x:Option Addr) (xN:Nat) (xC:Nat) (target:ByteArray) (cmp:Value) {w:World}{R:Ending→World→Prop} (h:F242 x xN xC target cmp w R):Calls Tryz.prog 242 #[(.slice x xN xC),(.string target),cmp] w R :=
 vc_calls (pl:=⟨49,⟨[]⟩,[],[(3,⟨[(9,(.s (.int .i64))),(10,(.s (.int .i64)))],[(9,35)]⟩)]⟩) Tryz.func242 (by kernel_rfl) (by kernel_rfl) (by kernel_rfl) (Eq.mp (by kernel_rfl) h)
def F109 (s:Option Addr) (sN:Nat) (sC:Nat) (d:World) (R:Ending→World→Prop):Prop :=
 Br (s).isNone
 (R (.returned (.slice none 0 0)) d)
 (Al d #[] 205 fun g5 w1 =>
 Raw Tryz.prog (Builtin.append_ #[81,81] 81 #[(.slice (some g5) 0 0),(.slice s sN sC)]) w1 fun v a =>
 ∃(e:Option Addr) (b:Nat) (c:Nat),v=(.slice e b c) ∧
 R (.returned (.slice e b c)) a)
theorem ok109 (s:Option Addr) (sN:Nat) (sC:Nat) {w:World}{R:Ending→World→Prop} (h:F109 s sN sC w R):Calls Tryz.prog 109 #[(.slice s sN sC)] w R :=
 vc_calls (pl:=⟨8,⟨[]⟩,[],[]⟩) Tryz.func109 (by kernel_rfl) (by kernel_rfl) (by kernel_rfl) (Eq.mp (by kernel_rfl) h)
def F241 (s:Option Addr) (sN:Nat) (sC:Nat) (i:Int) (j:Int) (f:World) (R:Ending→World→Prop):Prop :=
 SlB i j ((sN:Nat):Int)
 (((sN:Nat):Int)≤((sC:Nat):Int)∧Br (i == j)
 (R (.returned (.slice s sN sC)) f)
 (∃S:World→Prop,S f.drew∧SlB 0 i ((sC:Nat):Int)
 (SlB j ((sN:Nat):Int) ((sC:Nat):Int)
 (Raw Tryz.prog (Builtin.append_ #[96,96] 96 #[(.slice s (i).toNat sC),(.slice (SlA s sC (j).toNat 1) ((((sN:Nat):Int)).toNat-(j).toNat) (sC-(j).toNat))]) f.drew fun v d =>
 ∃(e:Option Addr) (b:Nat) (c:Nat),v=(.slice e b c) ∧
 SlB ((b:Nat):Int) ((sN:Nat):Int) ((c:Nat):Int)
 (Raw Tryz.prog (Builtin.clear_ #[96] 0 #[(.slice (SlA e c (((b:Nat):Int)).toNat 1) ((((sN:Nat):Int)).toNat-(((b:Nat):Int)).toNat) (c-(((b:Nat):Int)).toNat))]) d fun v2 a =>
 R (.returned (.slice e b c)) a)))))
theorem ok241 (s:Option Addr) (sN:Nat) (sC:Nat) (i:Int) (j:Int) {w:World}{R:Ending→World→Prop} (h:F241 s sN sC i j w R):Calls Tryz.prog 241 #[(.slice s sN sC),(.int .i64 i),(.int .i64 j)] w R :=
 vc_calls (pl:=⟨33,⟨[]⟩,[],[]⟩) Tryz.func241 (by kernel_rfl) (by kernel_rfl) (by kernel_rfl) (Eq.mp (by kernel_rfl) h)
def F237 (s:Option Addr) (sN:Nat) (sC:Nat) (i:Int) (j:Int) (f:World) (R:Ending→World→Prop):Prop :=
 SlB i j ((sN:Nat):Int)
 (((sN:Nat):Int)≤((sC:Nat):Int)∧Br (i == j)
 (R (.returned (.slice s sN sC)) f)
 (∃S:World→Prop,S f.drew∧SlB 0 i ((sC:Nat):Int)
 (SlB j ((sN:Nat):Int) ((sC:Nat):Int)
 (Raw Tryz.prog (Builtin.append_ #[81,81] 81 #[(.slice s (i).toNat sC),(.slice (SlA s sC (j).toNat 2) ((((sN:Nat):Int)).toNat-(j).toNat) (sC-(j).toNat))]) f.drew fun v d =>
 ∃(e:Option Addr) (b:Nat) (c:Nat),v=(.slice e b c) ∧
 SlB ((b:Nat):Int) ((sN:Nat):Int) ((c:Nat):Int)
 (Raw Tryz.prog (Builtin.clear_ #[81] 0 #[(.slice (SlA e c (((b:Nat):Int)).toNat 2) ((((sN:Nat):Int)).toNat-(((b:Nat):Int)).toNat) (c-(((b:Nat):Int)).toNat))]) d fun v2 a =>
 R (.returned (.slice e b c)) a)))))
theorem ok237 (s:Option Addr) (sN:Nat) (sC:Nat) (i:Int) (j:Int) {w:World}{R:Ending→World→Prop} (h:F237 s sN sC i j w R):Calls Tryz.prog 237 #[(.slice s sN sC),(.int .i64 i),(.int .i64 j)] w R :=
 vc_calls (pl:=⟨33,⟨[]⟩,[],[]⟩) Tryz.func237 (by kernel_rfl) (by kernel_rfl) (by kernel_rfl) (Eq.mp (by kernel_rfl) h)
def F160_l2 (s:Option Addr) (sN:Nat) (v:Option Addr) (L2:Int→World→Prop) (d:Int) (c:World) (R:Ending→World→Prop):Prop :=
 Br (decide (d < ((sN:Nat):Int)))
 (IdxA s sN d 1 fun b =>
 LdP (c.cell? b) fun a =>
 PtrOk c v a∧Br (decide (v=a))
 (R (.returned (.int .i64 d)) c)
 (InR .i64 (d+(1:Int))∧L2 (d+(1:Int)) c))
 (R (.returned (.int .i64 (-1))) c)
def F160 (s:Option Addr) (sN:Nat) (sC:Nat) (v:Option Addr) (a:World) (R:Ending→World→Prop):Prop :=
 ∃(I:Int→World→Prop) (m:Int→World→Nat),I (0:Int) a ∧
 ∀(b:Int) (w1:World),I b w1→F160_l2 s sN v (fun b' w2=>I b' w2∧m b' w2 < m b w1) b w1 R
theorem ok160 (s:Option Addr) (sN:Nat) (sC:Nat) (v:Option Addr) {w:World}{R:Ending→World→Prop} (h:F160 s sN sC v w R):Calls Tryz.prog 160 #[(.slice s sN sC),(.pointer v)] w R :=
 vc_calls (pl:=⟨19,⟨[]⟩,[],[(2,⟨[(8,(.s (.int .i64)))],[(4,6),(8,19)]⟩)]⟩) Tryz.func160 (by kernel_rfl) (by kernel_rfl) (by kernel_rfl) (Eq.mp (by kernel_rfl) h)
def F161 (s:Option Addr) (sN:Nat) (sC:Nat) (i:Int) (v:Option Addr) (vN:Nat) (vC:Nat) (t:World) (R:Ending→World→Prop):Prop :=
 SlB i ((sN:Nat):Int) ((sC:Nat):Int)
 (Br (((vN:Nat):Int) == (0:Int))
 (R (.returned (.slice s sN sC)) t)
 (Br (i == ((sN:Nat):Int))
 (Raw Tryz.prog (Builtin.append_ #[96,96] 96 #[(.slice s sN sC),(.slice v vN vC)]) t fun v2 w1 =>
 ∃(j:Option Addr) (g:Nat) (e:Nat),v2=(.slice j g e) ∧
 R (.returned (.slice j g e)) w1)
 (InR .i64 (((sN:Nat):Int)+((vN:Nat):Int))∧Br (decide ((((sN:Nat):Int)+((vN:Nat):Int)) > ((sC:Nat):Int)))
 (SlB 0 i ((sC:Nat):Int)
 (InR .i64 (((sN:Nat):Int)+((vN:Nat):Int))∧InR .i64 ((((sN:Nat):Int)+((vN:Nat):Int))-i)∧Raw Tryz.prog (Builtin.append_ #[96,3] 96 #[(.slice s (i).toNat sC),(.int .i64 ((((sN:Nat):Int)+((vN:Nat):Int))-i))]) t fun v2 w1 =>
 ∃(p:Option Addr) (b:Nat) (f:Nat),v2=(.slice p b f) ∧
 SlB i ((b:Nat):Int) ((f:Nat):Int)
 (Raw Tryz.prog (Builtin.copy_ #[96,96] 3 #[(.slice (SlA p f (i).toNat 1) ((((b:Nat):Int)).toNat-(i).toNat) (f-(i).toNat)),(.slice v vN vC)]) w1 fun v3 d =>
 ∃(r:Int),v3=(.int .i64 r) ∧
 ∃S:World→Prop,S d.drew∧InR .i64 (i+((vN:Nat):Int))∧SlB (i+((vN:Nat):Int)) ((b:Nat):Int) ((f:Nat):Int)
 (SlB i ((sN:Nat):Int) ((sC:Nat):Int)
 (Raw Tryz.prog (Builtin.copy_ #[96,96] 3 #[(.slice (SlA p f ((i+((vN:Nat):Int))).toNat 1) ((((b:Nat):Int)).toNat-((i+((vN:Nat):Int))).toNat) (f-((i+((vN:Nat):Int))).toNat)),(.slice (SlA s sC (i).toNat 1) ((((sN:Nat):Int)).toNat-(i).toNat) (sC-(i).toNat))]) d.drew fun v4 a =>
 ∃(q:Int),v4=(.int .i64 q) ∧
 R (.returned (.slice p b f)) a)))))
 (InR .i64 (((sN:Nat):Int)+((vN:Nat):Int))∧SlB 0 (((sN:Nat):Int)+((vN:Nat):Int)) ((sC:Nat):Int)
 (InR .i64 (i+((vN:Nat):Int))∧SlB (i+((vN:Nat):Int)) ((((((sN:Nat):Int)+((vN:Nat):Int))).toNat:Nat):Int) ((sC:Nat):Int)
 (ByRow Tryz.prog 187 #[(.slice v vN vC),(.slice (SlA s sC ((i+((vN:Nat):Int))).toNat 1) ((((((((sN:Nat):Int)+((vN:Nat):Int))).toNat:Nat):Int)).toNat-((i+((vN:Nat):Int))).toNat) (sC-((i+((vN:Nat):Int))).toNat))] t (fun v2 w1 =>
 ∃(h:Bool),v2=(.bool h) ∧
 Br (!h)
 (∃S:World→Prop,S w1.drew∧InR .i64 (i+((vN:Nat):Int))∧SlB (i+((vN:Nat):Int)) ((((((sN:Nat):Int)+((vN:Nat):Int))).toNat:Nat):Int) ((sC:Nat):Int)
 (SlB i ((((((sN:Nat):Int)+((vN:Nat):Int))).toNat:Nat):Int) ((sC:Nat):Int)
 (Raw Tryz.prog (Builtin.copy_ #[96,96] 3 #[(.slice (SlA s sC ((i+((vN:Nat):Int))).toNat 1) ((((((((sN:Nat):Int)+((vN:Nat):Int))).toNat:Nat):Int)).toNat-((i+((vN:Nat):Int))).toNat) (sC-((i+((vN:Nat):Int))).toNat)),(.slice (SlA s sC (i).toNat 1) ((((((((sN:Nat):Int)+((vN:Nat):Int))).toNat:Nat):Int)).toNat-(i).toNat) (sC-(i).toNat))]) w1.drew fun v3 c =>
 ∃(k:Int),v3=(.int .i64 k) ∧
 SlB i ((((((sN:Nat):Int)+((vN:Nat):Int))).toNat:Nat):Int) ((sC:Nat):Int)
 (Raw Tryz.prog (Builtin.copy_ #[96,96] 3 #[(.slice (SlA s sC (i).toNat 1) ((((((((sN:Nat):Int)+((vN:Nat):Int))).toNat:Nat):Int)).toNat-(i).toNat) (sC-(i).toNat)),(.slice v vN vC)]) c fun v4 a =>
 ∃(n:Int),v4=(.int .i64 n) ∧
 R (.returned (.slice s ((((sN:Nat):Int)+((vN:Nat):Int))).toNat sC)) a))))
 (SlB ((sN:Nat):Int) ((((((sN:Nat):Int)+((vN:Nat):Int))).toNat:Nat):Int) ((sC:Nat):Int)
 (Raw Tryz.prog (Builtin.copy_ #[96,96] 3 #[(.slice (SlA s sC (((sN:Nat):Int)).toNat 1) ((((((((sN:Nat):Int)+((vN:Nat):Int))).toNat:Nat):Int)).toNat-(((sN:Nat):Int)).toNat) (sC-(((sN:Nat):Int)).toNat)),(.slice v vN vC)]) w1 fun v3 d =>
 ∃(m:Int),v3=(.int .i64 m) ∧
 SlB i ((((((sN:Nat):Int)+((vN:Nat):Int))).toNat:Nat):Int) ((sC:Nat):Int)
 (Calls Tryz.prog 188 #[(.slice (SlA s sC (i).toNat 1) ((((((((sN:Nat):Int)+((vN:Nat):Int))).toNat:Nat):Int)).toNat-(i).toNat) (sC-(i).toNat)),(.int .i64 ((vN:Nat):Int))] d (post R fun v4 c =>
 v4=(.tuple #[]) ∧
 R (.returned (.slice s ((((sN:Nat):Int)+((vN:Nat):Int))).toNat sC)) c)))))))))))
theorem ok161 (s:Option Addr) (sN:Nat) (sC:Nat) (i:Int) (v:Option Addr) (vN:Nat) (vC:Nat) {w:World}{R:Ending→World→Prop} (h:F161 s sN sC i v vN vC w R):Calls Tryz.prog 161 #[(.slice s sN sC),(.int .i64 i),(.slice v vN vC)] w R :=
 vc_calls (pl:=⟨95,⟨[]⟩,[],[]⟩) Tryz.func161 (by kernel_rfl) (by kernel_rfl) (by kernel_rfl) (Eq.mp (by kernel_rfl) h)
def F240 (s:Option Addr) (sN:Nat) (sC:Nat) (i:Int) (v:Option Addr) (vN:Nat) (vC:Nat) (t:World) (R:Ending→World→Prop):Prop :=
 SlB i ((sN:Nat):Int) ((sC:Nat):Int)
 (Br (((vN:Nat):Int) == (0:Int))
 (R (.returned (.slice s sN sC)) t)
 (Br (i == ((sN:Nat):Int))
 (Raw Tryz.prog (Builtin.append_ #[81,81] 81 #[(.slice s sN sC),(.slice v vN vC)]) t fun v2 w1 =>
 ∃(j:Option Addr) (g:Nat) (e:Nat),v2=(.slice j g e) ∧
 R (.returned (.slice j g e)) w1)
 (InR .i64 (((sN:Nat):Int)+((vN:Nat):Int))∧Br (decide ((((sN:Nat):Int)+((vN:Nat):Int)) > ((sC:Nat):Int)))
 (SlB 0 i ((sC:Nat):Int)
 (InR .i64 (((sN:Nat):Int)+((vN:Nat):Int))∧InR .i64 ((((sN:Nat):Int)+((vN:Nat):Int))-i)∧Raw Tryz.prog (Builtin.append_ #[81,3] 81 #[(.slice s (i).toNat sC),(.int .i64 ((((sN:Nat):Int)+((vN:Nat):Int))-i))]) t fun v2 w1 =>
 ∃(p:Option Addr) (b:Nat) (f:Nat),v2=(.slice p b f) ∧
 SlB i ((b:Nat):Int) ((f:Nat):Int)
 (Raw Tryz.prog (Builtin.copy_ #[81,81] 3 #[(.slice (SlA p f (i).toNat 2) ((((b:Nat):Int)).toNat-(i).toNat) (f-(i).toNat)),(.slice v vN vC)]) w1 fun v3 d =>
 ∃(r:Int),v3=(.int .i64 r) ∧
 ∃S:World→Prop,S d.drew∧InR .i64 (i+((vN:Nat):Int))∧SlB (i+((vN:Nat):Int)) ((b:Nat):Int) ((f:Nat):Int)
 (SlB i ((sN:Nat):Int) ((sC:Nat):Int)
 (Raw Tryz.prog (Builtin.copy_ #[81,81] 3 #[(.slice (SlA p f ((i+((vN:Nat):Int))).toNat 2) ((((b:Nat):Int)).toNat-((i+((vN:Nat):Int))).toNat) (f-((i+((vN:Nat):Int))).toNat)),(.slice (SlA s sC (i).toNat 2) ((((sN:Nat):Int)).toNat-(i).toNat) (sC-(i).toNat))]) d.drew fun v4 a =>
 ∃(q:Int),v4=(.int .i64 q) ∧
 R (.returned (.slice p b f)) a)))))
 (InR .i64 (((sN:Nat):Int)+((vN:Nat):Int))∧SlB 0 (((sN:Nat):Int)+((vN:Nat):Int)) ((sC:Nat):Int)
 (InR .i64 (i+((vN:Nat):Int))∧SlB (i+((vN:Nat):Int)) ((((((sN:Nat):Int)+((vN:Nat):Int))).toNat:Nat):Int) ((sC:Nat):Int)
 (ByRow Tryz.prog 244 #[(.slice v vN vC),(.slice (SlA s sC ((i+((vN:Nat):Int))).toNat 2) ((((((((sN:Nat):Int)+((vN:Nat):Int))).toNat:Nat):Int)).toNat-((i+((vN:Nat):Int))).toNat) (sC-((i+((vN:Nat):Int))).toNat))] t (fun v2 w1 =>
 ∃(h:Bool),v2=(.bool h) ∧
 Br (!h)
 (∃S:World→Prop,S w1.drew∧InR .i64 (i+((vN:Nat):Int))∧SlB (i+((vN:Nat):Int)) ((((((sN:Nat):Int)+((vN:Nat):Int))).toNat:Nat):Int) ((sC:Nat):Int)
 (SlB i ((((((sN:Nat):Int)+((vN:Nat):Int))).toNat:Nat):Int) ((sC:Nat):Int)
 (Raw Tryz.prog (Builtin.copy_ #[81,81] 3 #[(.slice (SlA s sC ((i+((vN:Nat):Int))).toNat 2) ((((((((sN:Nat):Int)+((vN:Nat):Int))).toNat:Nat):Int)).toNat-((i+((vN:Nat):Int))).toNat) (sC-((i+((vN:Nat):Int))).toNat)),(.slice (SlA s sC (i).toNat 2) ((((((((sN:Nat):Int)+((vN:Nat):Int))).toNat:Nat):Int)).toNat-(i).toNat) (sC-(i).toNat))]) w1.drew fun v3 c =>
 ∃(k:Int),v3=(.int .i64 k) ∧
 SlB i ((((((sN:Nat):Int)+((vN:Nat):Int))).toNat:Nat):Int) ((sC:Nat):Int)
 (Raw Tryz.prog (Builtin.copy_ #[81,81] 3 #[(.slice (SlA s sC (i).toNat 2) ((((((((sN:Nat):Int)+((vN:Nat):Int))).toNat:Nat):Int)).toNat-(i).toNat) (sC-(i).toNat)),(.slice v vN vC)]) c fun v4 a =>
 ∃(n:Int),v4=(.int .i64 n) ∧
 R (.returned (.slice s ((((sN:Nat):Int)+((vN:Nat):Int))).toNat sC)) a))))
 (SlB ((sN:Nat):Int) ((((((sN:Nat):Int)+((vN:Nat):Int))).toNat:Nat):Int) ((sC:Nat):Int)
 (Raw Tryz.prog (Builtin.copy_ #[81,81] 3 #[(.slice (SlA s sC (((sN:Nat):Int)).toNat 2) ((((((((sN:Nat):Int)+((vN:Nat):Int))).toNat:Nat):Int)).toNat-(((sN:Nat):Int)).toNat) (sC-(((sN:Nat):Int)).toNat)),(.slice v vN vC)]) w1 fun v3 d =>
 ∃(m:Int),v3=(.int .i64 m) ∧
 SlB i ((((((sN:Nat):Int)+((vN:Nat):Int))).toNat:Nat):Int) ((sC:Nat):Int)
 (Calls Tryz.prog 245 #[(.slice (SlA s sC (i).toNat 2) ((((((((sN:Nat):Int)+((vN:Nat):Int))).toNat:Nat):Int)).toNat-(i).toNat) (sC-(i).toNat)),(.int .i64 ((vN:Nat):Int))] d (post R fun v4 c =>
 v4=(.tuple #[]) ∧
 R (.returned (.slice s ((((sN:Nat):Int)+((vN:Nat):Int))).toNat sC)) c)))))))))))
theorem ok240 (s:Option Addr) (sN:Nat) (sC:Nat) (i:Int) (v:Option Addr) (vN:Nat) (vC:Nat) {w:World}{R:Ending→World→Prop} (h:F240 s sN sC i v vN vC w R):Calls Tryz.prog 240 #[(.slice s sN sC),(.int .i64 i),(.slice v vN vC)] w R :=
 vc_calls (pl:=⟨95,⟨[]⟩,[],[]⟩) Tryz.func240 (by kernel_rfl) (by kernel_rfl) (by kernel_rfl) (Eq.mp (by kernel_rfl) h)
set_option maxRecDepth 100000
def F47_j3 (d:Option Addr) (n:Int) (f:World) (R:Ending→World→Prop):Prop :=
 Al f #[] 65 fun g16 w1 =>
 Calls Tryz.prog 81 #[(.pointer d),(.int .u64 n),(.slice (some g16) 0 0)] w1 (post R fun v b =>
 ∃(e:Option Addr) (c:Nat) (a:Nat),v=(.slice e c a) ∧
 R (.returned (.tuple #[(.slice e c a),(.int .i64 0)])) b)
def F47 (d:Option Addr) (n:Int) (b:World) (R:Ending→World→Prop):Prop :=
 ∃J3:World→Prop,(∀ (w1:World),J3 w1→F47_j3 d n w1 R) ∧
 (Br (n != (0:Int))
 (Calls Tryz.prog 80 #[(.pointer d),(.int .u64 n)] b (post R fun v w1 =>
 ∃(a:Bool),v=(.bool a) ∧
 Br (!a)
 (R (.returned (.tuple #[(.slice none 0 0),(.int .i64 8)])) w1)
 (J3 w1)))
 (J3 b))
theorem ok47 (d:Option Addr) (n:Int) {w:World}{R:Ending→World→Prop} (h:F47 d n w R):Calls Tryz.prog 47 #[(.pointer d),(.int .u64 n)] w R :=
 vc_calls (pl:=⟨18,⟨[]⟩,[(3,⟨[],[(4,14)]⟩)],[]⟩) Tryz.func47 (by kernel_rfl) (by kernel_rfl) (by kernel_rfl) (Eq.mp (by kernel_rfl) h)
def F102_l7 (d:Option Addr) (g:Option Addr) (a:Nat) (L7:Int→World→Prop) (i:Int) (y:World) (R:Ending→World→Prop):Prop :=
 Br (decide (i < ((a:Nat):Int)))
 (IdxA g a i 1 fun t =>
 LdI .u64 (y.cell? t) fun v =>
 Calls Tryz.prog 82 #[(.pointer d),(.int .u64 v)] y (post R fun v5 q =>
 ∃(ba:Int),v5=(.int .i64 ba) ∧
 ∃S:World→Prop,S q.drew∧NonNil d fun p44 =>
 ∃(u:Option Addr) (n:Nat) (m:Nat),Held S p44 (.slice u n m)∧NonNil d fun p49 =>
 ∃(aa:Option Addr) (r:Nat) (p:Nat),Held S p49 (.slice aa r p)∧IdxA aa r ba 8 fun ca =>
 ∃(z:Int),Held S ca (.int .u32 z)∧IdxA u n ba 8 fun da =>
 St q.drew da (.int .u32 z) fun s =>
 St s (da.add 1) (.bool false) fun b =>
 St b (da.add 2) (.int .i64 0) fun c =>
 St c (da.add 3) (.string (ByteArray.mk #[])) fun k =>
 St k (da.add 4) (.slice none 0 0) fun e =>
 St e (da.add 5) (.string (ByteArray.mk #[])) fun h =>
 St h (da.add 6) (.int .u64 0) fun f =>
 St f (da.add 7) (.slice none 0 0) fun j =>
 InR .i64 (i+(1:Int))∧L7 (i+(1:Int)) j))
 (R (.returned (.int .i64 0)) y)
def F102 (d:Option Addr) (n:Int) (w_:World) (R:Ending→World→Prop):Prop :=
 Calls Tryz.prog 80 #[(.pointer d),(.int .u64 n)] w_ (post R fun v w1 =>
 ∃(y:Bool),v=(.bool y) ∧
 Br (!y)
 (R (.returned (.int .i64 8)) w1)
 (Calls Tryz.prog 47 #[(.pointer d),(.int .u64 n)] w1 (post R fun v2 q =>
 ∃(c:Option Addr) (b:Nat) (a:Nat) (e:Int),v2=(.tuple #[(.slice c b a),(.int .i64 e)]) ∧
 Al q #[] 162 fun g20 f =>
 NonNil d fun p22 =>
 LdSl (f.cell? p22) fun z g k =>
 Raw Tryz.prog (Builtin.append_ #[22,22] 22 #[(.slice (some g20) 0 0),(.slice z g k)]) f fun v3 h =>
 ∃(u:Option Addr) (t:Nat) (r:Nat),v3=(.slice u t r) ∧
 NonNil d fun p26 =>
 St h p26 (.slice u t r) fun s =>
 Calls Tryz.prog 147 #[(.pointer d),(.int .u64 n)] s (post R fun v4 j =>
 v4=(.tuple #[]) ∧
 ∃(I:Int→World→Prop) (m:Int→World→Nat),I (0:Int) j ∧
 ∀(i:Int) (p:World),I i p→F102_l7 d c b (fun i' w2=>I i' w2∧m i' w2 < m i p) i p R))))
theorem ok102 (d:Option Addr) (n:Int) {w:World}{R:Ending→World→Prop} (h:F102 d n w R):Calls Tryz.prog 102 #[(.pointer d),(.int .u64 n)] w R :=
 vc_calls (pl:=⟨58,⟨[]⟩,[],[(7,⟨[(7,(.s (.int .i64)))],[(7,58)]⟩)]⟩) Tryz.func102 (by kernel_rfl) (by kernel_rfl) (by kernel_rfl) (Eq.mp (by kernel_rfl) h)
def F106_l6 (d:Option Addr) (name:ByteArray) (a:Int) (z:Option Addr) (c:Nat) (n:Nat) (L6:Int→World→Prop) (k:Int) (t:World) (R:Ending→World→Prop):Prop :=
 Br (decide (k < ((c:Nat):Int)))
 (IdxA z c k 2 fun s =>
 LdStr (t.cell? s) fun aa =>
 Br (aa.toList == name.toList)
 (∃S:World→Prop,S t.drew∧NonNil d fun p42 =>
 ∃(r:Option Addr) (m:Nat) (p:Nat),Held S p42 (.slice r m p)∧SlB 0 k ((n:Nat):Int)
 (InR .i64 (k+(1:Int))∧SlB (k+(1:Int)) ((c:Nat):Int) ((n:Nat):Int)
 (Al t.drew #[] 205 fun g46 e =>
 S e∧Raw Tryz.prog (Builtin.append_ #[81,81] 81 #[(.slice (some g46) 0 0),(.slice z (k).toNat n)]) e fun v2 j =>
 ∃(v:Option Addr) (f:Nat) (b:Nat),v2=(.slice v f b) ∧
 S j∧Raw Tryz.prog (Builtin.append_ #[81,81] 81 #[(.slice v f b),(.slice (SlA z n ((k+(1:Int))).toNat 2) ((((c:Nat):Int)).toNat-((k+(1:Int))).toNat) (n-((k+(1:Int))).toNat))]) j fun v3 i =>
 ∃(u:Option Addr) (g:Nat) (q:Nat),v3=(.slice u g q) ∧
 S i∧IdxA r m a 8 fun y =>
 St i (y.add 4) (.slice u g q) fun h =>
 R (.returned (.int .i64 0)) h)))
 (InR .i64 (k+(1:Int))∧L6 (k+(1:Int)) t))
 (R (.returned (.int .i64 35)) t)
def F106 (d:Option Addr) (n:Int) (name:ByteArray) (q:World) (R:Ending→World→Prop):Prop :=
 Calls Tryz.prog 148 #[(.pointer d),(.int .u64 n),(.int .i64 1)] q (post R fun v w1 =>
 ∃(a:Int) (b:Int),v=(.tuple #[(.int .i64 a),(.int .i64 b)]) ∧
 Br (b != (0:Int))
 (R (.returned (.int .i64 b)) w1)
 (NonNil d fun p21 =>
 LdSl (w1.cell? p21) fun p c e =>
 IdxA p c a 8 fun j =>
 LdSl (w1.cell? (j.add 4)) fun i f g =>
 ∃(I:Int→World→Prop) (m:Int→World→Nat),I (0:Int) w1 ∧
 ∀(k:Int) (h:World),I k h→F106_l6 d name a i f g (fun k' w2=>I k' w2∧m k' w2 < m k h) k h R))
theorem ok106 (d:Option Addr) (n:Int) (name:ByteArray) {w:World}{R:Ending→World→Prop} (h:F106 d n name w R):Calls Tryz.prog 106 #[(.pointer d),(.int .u64 n),(.string name)] w R :=
 vc_calls (pl:=⟨58,⟨[]⟩,[],[(6,⟨[(10,(.s (.int .i64)))],[(6,7),(10,58)]⟩)]⟩) Tryz.func106 (by kernel_rfl) (by kernel_rfl) (by kernel_rfl) (Eq.mp (by kernel_rfl) h)
def F48 (d:Option Addr) (n:Int) (w_:World) (R:Ending→World→Prop):Prop :=
 Al w_ #[(.int .i64 0),(.string (ByteArray.mk #[])),(.slice none 0 0),(.string (ByteArray.mk #[])),(.slice none 0 0)] 84 fun g4 w1 =>
 Calls Tryz.prog 82 #[(.pointer d),(.int .u64 n)] w1 (post R fun v ma =>
 ∃(ra:Int),v=(.int .i64 ra) ∧
 Br (decide (ra < (0:Int)))
 (St ma g4 (.int .i64 0) fun ba =>
 St ba (g4.add 1) (.string (ByteArray.mk #[])) fun fa =>
 St fa (g4.add 2) (.slice none 0 0) fun da =>
 St da (g4.add 3) (.string (ByteArray.mk #[])) fun ca =>
 St ca (g4.add 4) (.slice none 0 0) fun ha =>
 LdI .i64 (ha.cell? g4) fun res0_0 =>
 LdStr (ha.cell? (g4.add 1)) fun res0_1 =>
 LdSl (ha.cell? (g4.add 2)) fun res0_2 res0_2N res0_2C =>
 LdStr (ha.cell? (g4.add 3)) fun res0_3 =>
 LdSl (ha.cell? (g4.add 4)) fun res0_4 res0_4N res0_4C =>
 R (.returned (.tuple #[(.agg #[(.int .i64 res0_0),(.string res0_1),(.slice res0_2 res0_2N res0_2C),(.string res0_3),(.slice res0_4 res0_4N res0_4C)]),(.int .i64 8)])) ha)
 (NonNil d fun p15 =>
 LdSl (ma.cell? p15) fun va ea ga =>
 IdxA va ea ra 8 fun ta =>
 LdI .u32 (ma.cell? ta) fun y =>
 LdB (ma.cell? (ta.add 1)) fun g =>
 LdI .i64 (ma.cell? (ta.add 2)) fun r =>
 LdStr (ma.cell? (ta.add 3)) fun h =>
 LdSl (ma.cell? (ta.add 4)) fun z e a =>
 LdStr (ma.cell? (ta.add 5)) fun p =>
 LdI .u64 (ma.cell? (ta.add 6)) fun f =>
 LdSl (ma.cell? (ta.add 7)) fun q c b =>
 Al ma #[(.int .u32 0),(.bool false),(.int .i64 0),(.string (ByteArray.mk #[])),(.slice none 0 0),(.string (ByteArray.mk #[])),(.int .u64 0),(.slice none 0 0)] 162 fun s ba =>
 St ba s (.int .u32 y) fun fa =>
 St fa (s.add 1) (.bool g) fun da =>
 St da (s.add 2) (.int .i64 r) fun ca =>
 St ca (s.add 3) (.string h) fun ha =>
 St ha (s.add 4) (.slice z e a) fun na =>
 St na (s.add 5) (.string p) fun ja =>
 St ja (s.add 6) (.int .u64 f) fun i =>
 St i (s.add 7) (.slice q c b) fun j =>
 LdI .i64 (j.cell? (s.add 2)) fun pa =>
 LdStr (j.cell? (s.add 3)) fun ua =>
 LdSl (j.cell? (s.add 4)) fun qa ka ia =>
 LdStr (j.cell? (s.add 5)) fun sa =>
 St j g4 (.int .i64 pa) fun aa =>
 St aa (g4.add 1) (.string ua) fun k =>
 St k (g4.add 2) (.slice qa ka ia) fun t =>
 St t (g4.add 3) (.string sa) fun m =>
 St m (g4.add 4) (.slice none 0 0) fun u =>
 LdI .i64 (u.cell? g4) fun res0_0 =>
 LdStr (u.cell? (g4.add 1)) fun res0_1 =>
 LdSl (u.cell? (g4.add 2)) fun res0_2 res0_2N res0_2C =>
 LdStr (u.cell? (g4.add 3)) fun res0_3 =>
 LdSl (u.cell? (g4.add 4)) fun res0_4 res0_4N res0_4C =>
 R (.returned (.tuple #[(.agg #[(.int .i64 res0_0),(.string res0_1),(.slice res0_2 res0_2N res0_2C),(.string res0_3),(.slice res0_4 res0_4N res0_4C)]),(.int .i64 0)])) u))
theorem ok48 (d:Option Addr) (n:Int) {w:World}{R:Ending→World→Prop} (h:F48 d n w R):Calls Tryz.prog 48 #[(.pointer d),(.int .u64 n)] w R :=
 vc_calls (pl:=⟨30,⟨[]⟩,[],[]⟩) Tryz.func48 (by kernel_rfl) (by kernel_rfl) (by kernel_rfl) (Eq.mp (by kernel_rfl) h)
def F130 (d:Option Addr) (i:Int) (f:World) (R:Ending→World→Prop):Prop :=
 NonNil d fun p6 =>
 LdSl (f.cell? p6) fun g a e =>
 IdxA g a i 8 fun c =>
 LdI .u32 (f.cell? c) fun b =>
 InR .u64 (b)∧InR .u64 ((b)*(2 ^ (min ((32:Int)).toNat 64)))∧InR .i64 (i+(1:Int))∧InR .u64 ((i+(1:Int)))∧R (.returned (.int .u64 (bOr .u64 ((b)*(2 ^ (min ((32:Int)).toNat 64))) ((i+(1:Int)))))) f
theorem ok130 (d:Option Addr) (i:Int) {w:World}{R:Ending→World→Prop} (h:F130 d i w R):Calls Tryz.prog 130 #[(.pointer d),(.int .i64 i)] w R :=
 vc_calls (pl:=⟨19,⟨[]⟩,[],[]⟩) Tryz.func130 (by kernel_rfl) (by kernel_rfl) (by kernel_rfl) (Eq.mp (by kernel_rfl) h)
def F99 (d:Option Addr) (where_:Int) (at_:Int) (x_0:Int) (x_1:ByteArray) (x_2:Option Addr) (x_2N:Nat) (x_2C:Nat) (x_3:ByteArray) (x_4:Option Addr) (x_4N:Nat) (x_4C:Nat) (w_:World) (R:Ending→World→Prop):Prop :=
 Al w_ #[(.int .i64 x_0),(.string x_1),(.slice x_2 x_2N x_2C),(.string x_3),(.slice x_4 x_4N x_4C)] 84 fun g7 w1 =>
 Calls Tryz.prog 138 #[(.pointer d),(.int .i64 where_),(.int .u64 at_)] w1 (post R fun v bb =>
 ∃(ha:Int) (q:Int),v=(.tuple #[(.int .u64 ha),(.int .i64 q)]) ∧
 Br (q == (1:Int))
 (R (.returned (.tuple #[(.int .u64 0),(.int .i64 q)])) bb)
 (LdI .i64 (bb.cell? g7) fun da =>
 LdStr (bb.cell? (g7.add 1)) fun ga =>
 LdSl (bb.cell? (g7.add 2)) fun ma f c =>
 LdStr (bb.cell? (g7.add 3)) fun u =>
 LdSl (bb.cell? (g7.add 4)) fun z e h =>
 Calls Tryz.prog 139 #[(.agg #[(.int .i64 da),(.string ga),(.slice ma f c),(.string u),(.slice z e h)])] bb (post R fun v2 qa =>
 ∃(hb:Int),v2=(.int .i64 hb) ∧
 Br (hb != (0:Int))
 (R (.returned (.tuple #[(.int .u64 0),(.int .i64 hb)])) qa)
 (Br (q != (0:Int))
 (R (.returned (.tuple #[(.int .u64 0),(.int .i64 q)])) qa)
 (LdI .i64 (qa.cell? g7) fun ja =>
 LdStr (qa.cell? (g7.add 1)) fun ba =>
 LdSl (qa.cell? (g7.add 2)) fun na i g =>
 LdStr (qa.cell? (g7.add 3)) fun ia =>
 LdSl (qa.cell? (g7.add 4)) fun ea b j =>
 Calls Tryz.prog 140 #[(.agg #[(.int .i64 ja),(.string ba),(.slice na i g),(.string ia),(.slice ea b j)])] qa (post R fun v3 va =>
 ∃(fa:Int) (p:Int),v3=(.tuple #[(.int .i64 fa),(.int .i64 p)]) ∧
 Calls Tryz.prog 141 #[(.pointer d),(.int .u64 ha)] va (post R fun v4 sa =>
 ∃(eb:Int),v4=(.int .i64 eb) ∧
 InR .i64 (eb+(1:Int))∧InR .i64 ((eb+(1:Int))+p)∧Br (decide (((eb+(1:Int))+p) > (64:Int)))
 (R (.returned (.tuple #[(.int .u64 0),(.int .i64 32)])) sa)
 (Calls Tryz.prog 142 #[(.pointer d)] sa (post R fun v5 ra =>
 ∃(ib:Int),v5=(.int .i64 ib) ∧
 InR .i64 (ib+fa)∧Br (decide ((ib+fa) > (4096:Int)))
 (R (.returned (.tuple #[(.int .u64 0),(.int .i64 33)])) ra)
 (Al ra #[] 162 fun g52 ya =>
 NonNil d fun p54 =>
 LdSl (ya.cell? p54) fun db pa za =>
 Raw Tryz.prog (Builtin.append_ #[22,22] 22 #[(.slice (some g52) 0 0),(.slice db pa za)]) ya fun v6 cb =>
 ∃(fb:Option Addr) (ta:Nat) (ua:Nat),v6=(.slice fb ta ua) ∧
 NonNil d fun p58 =>
 St cb p58 (.slice fb ta ua) fun ab =>
 LdI .i64 (ab.cell? g7) fun aa =>
 LdStr (ab.cell? (g7.add 1)) fun y =>
 LdSl (ab.cell? (g7.add 2)) fun ka k n =>
 LdStr (ab.cell? (g7.add 3)) fun t =>
 LdSl (ab.cell? (g7.add 4)) fun ca m a =>
 Calls Tryz.prog 143 #[(.pointer d),(.agg #[(.int .i64 aa),(.string y),(.slice ka k n),(.string t),(.slice ca m a)]),(.int .u64 ha)] ab (post R fun v7 r =>
 ∃(gb:Int),v7=(.int .u64 gb) ∧
 Calls Tryz.prog 144 #[(.pointer d),(.int .u64 gb),(.int .u64 ha),(.int .i64 where_),(.int .u64 at_)] r (post R fun v8 s =>
 v8=(.tuple #[]) ∧
 R (.returned (.tuple #[(.int .u64 gb),(.int .i64 0)])) s))))))))))))
theorem ok99 (d:Option Addr) (where_:Int) (at_:Int) (x_0:Int) (x_1:ByteArray) (x_2:Option Addr) (x_2N:Nat) (x_2C:Nat) (x_3:ByteArray) (x_4:Option Addr) (x_4N:Nat) (x_4C:Nat) {w:World}{R:Ending→World→Prop} (h:F99 d where_ at_ x_0 x_1 x_2 x_2N x_2C x_3 x_4 x_4N x_4C w R):Calls Tryz.prog 99 #[(.pointer d),(.int .i64 where_),(.int .u64 at_),(.agg #[(.int .i64 x_0),(.string x_1),(.slice x_2 x_2N x_2C),(.string x_3),(.slice x_4 x_4N x_4C)])] w R :=
 vc_calls (pl:=⟨71,⟨[]⟩,[],[]⟩) Tryz.func99 (by kernel_rfl) (by kernel_rfl) (by kernel_rfl) (Eq.mp (by kernel_rfl) h)
def F129 (d:Option Addr) (h_:Int) (p:World) (R:Ending→World→Prop):Prop :=
 Br (h_ == (0:Int))
 (NonNil d fun p8 =>
 LdSl (p.cell? (p8.add 1)) fun j a e =>
 R (.returned (.slice j a e)) p)
 (∃S:World→Prop,S p.drew∧NonNil d fun p12 =>
 ∃(n:Option Addr) (g:Nat) (c:Nat),Held S p12 (.slice n g c)∧Calls Tryz.prog 82 #[(.pointer d),(.int .u64 h_)] p.drew (post R fun v h =>
 ∃(m:Int),v=(.int .i64 m) ∧
 S h∧IdxA n g m 8 fun i =>
 ∃(k:Option Addr) (f:Nat) (b:Nat),Held S (i.add 7) (.slice k f b)∧R (.returned (.slice k f b)) h))
theorem ok129 (d:Option Addr) (h_:Int) {w:World}{R:Ending→World→Prop} (h:F129 d h_ w R):Calls Tryz.prog 129 #[(.pointer d),(.int .u64 h_)] w R :=
 vc_calls (pl:=⟨21,⟨[]⟩,[],[]⟩) Tryz.func129 (by kernel_rfl) (by kernel_rfl) (by kernel_rfl) (Eq.mp (by kernel_rfl) h)
def F80 (d:Option Addr) (h_:Int) (a:World) (R:Ending→World→Prop):Prop :=
 Calls Tryz.prog 82 #[(.pointer d),(.int .u64 h_)] a (post R fun v w1 =>
 ∃(b:Int),v=(.int .i64 b) ∧
 R (.returned (.bool (decide (b≥(0:Int))))) w1)
theorem ok80 (d:Option Addr) (h_:Int) {w:World}{R:Ending→World→Prop} (h:F80 d h_ w R):Calls Tryz.prog 80 #[(.pointer d),(.int .u64 h_)] w R :=
 vc_calls (pl:=⟨9,⟨[]⟩,[],[]⟩) Tryz.func80 (by kernel_rfl) (by kernel_rfl) (by kernel_rfl) (Eq.mp (by kernel_rfl) h)
def F101_j8 (d:Option Addr) (n:Int) (where_:Int) (at_:Int) (ea:Int) (da:Int) (db:World) (R:Ending→World→Prop):Prop :=
 Br (da != (0:Int))
 (R (.returned (.int .i64 da)) db)
 (Calls Tryz.prog 146 #[(.pointer d),(.int .u64 n)] db (post R fun v2 ya =>
 ∃(f:Int) (i:ByteArray) (h:Option Addr) (a:Nat) (e:Nat) (g:ByteArray) (j:Option Addr) (b:Nat) (c:Nat) (ia:Int),v2=(.tuple #[(.agg #[(.int .i64 f),(.string i),(.slice h a e),(.string g),(.slice j b c)]),(.int .i64 ia)]) ∧
 Al ya #[(.int .i64 0),(.string (ByteArray.mk #[])),(.slice none 0 0),(.string (ByteArray.mk #[])),(.slice none 0 0)] 84 fun t ka =>
 St ka t (.int .i64 f) fun qa =>
 St qa (t.add 1) (.string i) fun pa =>
 St pa (t.add 2) (.slice h a e) fun ma =>
 St ma (t.add 3) (.string g) fun sa =>
 St sa (t.add 4) (.slice j b c) fun za =>
 LdI .i64 (za.cell? t) fun fa =>
 LdStr (za.cell? (t.add 1)) fun z =>
 LdSl (za.cell? (t.add 2)) fun ga k p =>
 LdStr (za.cell? (t.add 3)) fun aa =>
 LdSl (za.cell? (t.add 4)) fun ja m q =>
 Calls Tryz.prog 140 #[(.agg #[(.int .i64 fa),(.string z),(.slice ga k p),(.string aa),(.slice ja m q)])] za (post R fun v3 va =>
 ∃(ca:Int) (r:Int),v3=(.tuple #[(.int .i64 ca),(.int .i64 r)]) ∧
 Calls Tryz.prog 141 #[(.pointer d),(.int .u64 ea)] va (post R fun v4 s =>
 ∃(cb:Int),v4=(.int .i64 cb) ∧
 InR .i64 (cb+(1:Int))∧InR .i64 ((cb+(1:Int))+r)∧Br (decide (((cb+(1:Int))+r) > (64:Int)))
 (R (.returned (.int .i64 32)) s)
 (Al s #[] 162 fun g63 u =>
 NonNil d fun p65 =>
 LdSl (u.cell? p65) fun ab ra na =>
 Raw Tryz.prog (Builtin.append_ #[22,22] 22 #[(.slice (some g63) 0 0),(.slice ab ra na)]) u fun v5 y =>
 ∃(bb:Option Addr) (ta:Nat) (ua:Nat),v5=(.slice bb ta ua) ∧
 NonNil d fun p69 =>
 St y p69 (.slice bb ta ua) fun v =>
 Calls Tryz.prog 147 #[(.pointer d),(.int .u64 n)] v (post R fun v6 ha =>
 v6=(.tuple #[]) ∧
 Calls Tryz.prog 144 #[(.pointer d),(.int .u64 n),(.int .u64 ea),(.int .i64 where_),(.int .u64 at_)] ha (post R fun v7 ba =>
 v7=(.tuple #[]) ∧
 R (.returned (.int .i64 0)) ba)))))))
def F101_j6 (d:Option Addr) (n:Int) (where_:Int) (at_:Int) (b:Int) (a:Int) (f:World) (R:Ending→World→Prop):Prop :=
 ∃J8:World→Prop,(∀ (c:World),J8 c→F101_j8 d n where_ at_ b a c R) ∧
 (Br (at_ != (0:Int))
 (Calls Tryz.prog 145 #[(.pointer d),(.int .u64 at_),(.int .u64 n)] f (post R fun v2 c =>
 ∃(e:Bool),v2=(.bool e) ∧
 Br e
 (R (.returned (.int .i64 34)) c)
 (J8 c)))
 (J8 f))
def F101 (d:Option Addr) (n:Int) (where_:Int) (at_:Int) (f:World) (R:Ending→World→Prop):Prop :=
 Calls Tryz.prog 138 #[(.pointer d),(.int .i64 where_),(.int .u64 at_)] f (post R fun v w1 =>
 ∃(b:Int) (a:Int),v=(.tuple #[(.int .u64 b),(.int .i64 a)]) ∧
 Br (a == (1:Int))
 (R (.returned (.int .i64 a)) w1)
 (∃J6:World→Prop,(∀ (c:World),J6 c→F101_j6 d n where_ at_ b a c R) ∧
 (Calls Tryz.prog 80 #[(.pointer d),(.int .u64 n)] w1 (post R fun v2 c =>
 ∃(e:Bool),v2=(.bool e) ∧
 Br (!e)
 (R (.returned (.int .i64 8)) c)
 (Br (a == (8:Int))
 (R (.returned (.int .i64 8)) c)
 (J6 c))))))
theorem ok101 (d:Option Addr) (n:Int) (where_:Int) (at_:Int) {w:World}{R:Ending→World→Prop} (h:F101 d n where_ at_ w R):Calls Tryz.prog 101 #[(.pointer d),(.int .u64 n),(.int .i64 where_),(.int .u64 at_)] w R :=
 vc_calls (pl:=⟨80,⟨[]⟩,[(8,⟨[],[(8,9),(33,41)]⟩),(6,⟨[],[(8,9),(25,33)]⟩)],[]⟩) Tryz.func101 (by kernel_rfl) (by kernel_rfl) (by kernel_rfl) (Eq.mp (by kernel_rfl) h)
def F105_j18 (d:Option Addr) (c:Int) (s:Option Addr) (p:Nat) (i:Nat) (t:Option Addr) (f:Nat) (n:Nat) (k2:Int) (q:World) (R:Ending→World→Prop):Prop :=
 ∃S:World→Prop,S q.drew∧NonNil d fun p93 =>
 ∃(r:Option Addr) (m:Nat) (j:Nat),Held S p93 (.slice r m j)∧SlB k2 ((p:Nat):Int) ((i:Nat):Int)
 (Raw Tryz.prog (Builtin.append_ #[81,81] 81 #[(.slice t f n),(.slice (SlA s i (k2).toNat 2) ((((p:Nat):Int)).toNat-(k2).toNat) (i-(k2).toNat))]) q.drew fun v6 g =>
 ∃(h:Option Addr) (e:Nat) (a:Nat),v6=(.slice h e a) ∧
 S g∧IdxA r m c 8 fun k =>
 St g (k.add 4) (.slice h e a) fun b =>
 R (.returned (.int .i64 0)) b)
def F105_j15 (d:Option Addr) (name:ByteArray) (value:ByteArray) (a:Int) (r:Option Addr) (n:Nat) (e:Nat) (g43:Addr) (k:Int) (there:Bool) (p:World) (R:Ending→World→Prop):Prop :=
 SlB 0 k ((e:Nat):Int)
 (Raw Tryz.prog (Builtin.append_ #[81,81] 81 #[(.slice (some g43) 0 0),(.slice r (k).toNat e)]) p fun v4 h =>
 ∃(q:Option Addr) (g:Nat) (i:Nat),v4=(.slice q g i) ∧
 Al h #[(.string name),(.string value)] 205 fun g87 c =>
 Raw Tryz.prog (Builtin.append_ #[81,81] 81 #[(.slice q g i),(.slice (some g87) 1 1)]) c fun v5 f =>
 ∃(s:Option Addr) (b:Nat) (j:Nat),v5=(.slice s b j) ∧
 ∃J18:Int→World→Prop,(∀(k2:Int) (m:World),J18 k2 m→F105_j18 d a r n e s b j k2 m R) ∧
 (Br there
 (InR .i64 (k+(1:Int))∧J18 (k+(1:Int)) f)
 (J18 k f)))
def F105_j13 (d:Option Addr) (name:ByteArray) (value:ByteArray) (a:Int) (g:Option Addr) (e:Nat) (b:Nat) (g43:Addr) (k:Int) (there:Bool) (f:World) (R:Ending→World→Prop):Prop :=
 ∃J15:World→Prop,(∀ (c:World),J15 c→F105_j15 d name value a g e b g43 k there c R) ∧
 (Br (!there)
 (Br (decide (((e:Nat):Int)≥(32:Int)))
 (R (.returned (.int .i64 2)) f)
 (J15 f))
 (J15 f))
def F105_j12 (d:Option Addr) (name:ByteArray) (value:ByteArray) (a:Int) (g:Option Addr) (e:Nat) (b:Nat) (g43:Addr) (k:Int) (i:World) (R:Ending→World→Prop):Prop :=
 ∃J13:Bool→World→Prop,(∀(there:Bool) (c:World),J13 there c→F105_j13 d name value a g e b g43 k there c R) ∧
 (Br (decide (k < ((e:Nat):Int)))
 (IdxA g e k 2 fun h =>
 LdStr (i.cell? h) fun f =>
 J13 (f.toList == name.toList) i)
 (J13 false i))
def F105_j11 (L10:Int→World→Prop) (k:Int) (a:World) (R:Ending→World→Prop):Prop :=
 InR .i64 (k+(1:Int))∧L10 (k+(1:Int)) a
def F105_l10 (name:ByteArray) (e:Option Addr) (b:Nat) (J12:Int→World→Prop) (L10:Int→World→Prop) (k:Int) (f:World) (R:Ending→World→Prop):Prop :=
 ∃J11:World→Prop,(∀ (a:World),J11 a→F105_j11 L10 k a R) ∧
 (Br (decide (k < ((b:Nat):Int)))
 (IdxA e b k 2 fun c =>
 LdStr (f.cell? c) fun d =>
 Br (Op.bytesLess d.toList name.toList)
 (J11 f)
 (J12 k f))
 (J12 k f))
def F105 (d:Option Addr) (n:Int) (name:ByteArray) (value:ByteArray) (z:World) (R:Ending→World→Prop):Prop :=
 Calls Tryz.prog 148 #[(.pointer d),(.int .u64 n),(.int .i64 1)] z (post R fun v w1 =>
 ∃(a:Int) (e:Int),v=(.tuple #[(.int .i64 a),(.int .i64 e)]) ∧
 Br (e != (0:Int))
 (R (.returned (.int .i64 e)) w1)
 (Calls Tryz.prog 149 #[(.string name)] w1 (post R fun v2 p =>
 ∃(s:Bool),v2=(.bool s) ∧
 Br (!s)
 (R (.returned (.int .i64 6)) p)
 (Calls Tryz.prog 89 #[(.string value)] p (post R fun v3 g =>
 ∃(b:Int) (c:Int),v3=(.tuple #[(.int .i64 b),(.int .i64 c)]) ∧
 Br (c != (0:Int))
 (R (.returned (.int .i64 c)) g)
 (NonNil d fun p36 =>
 LdSl (g.cell? p36) fun t f j =>
 IdxA t f a 8 fun u =>
 LdSl (g.cell? (u.add 4)) fun y r i =>
 Al g #[] 205 fun g43 h =>
 ∃J12:Int→World→Prop,(∀(k:Int) (q:World),J12 k q→F105_j12 d name value a y r i g43 k q R) ∧
 (∃(I:Int→World→Prop) (m:Int→World→Nat),I (0:Int) h ∧
 ∀(k:Int) (q:World),I k q→F105_l10 name y r J12 (fun k' w2=>I k' w2∧m k' w2 < m k q) k q R)))))))
theorem ok105 (d:Option Addr) (n:Int) (name:ByteArray) (value:ByteArray) {w:World}{R:Ending→World→Prop} (h:F105 d n name value w R):Calls Tryz.prog 105 #[(.pointer d),(.int .u64 n),(.string name),(.string value)] w R :=
 vc_calls (pl:=⟨104,⟨[]⟩,[(11,⟨[],[(44,57)]⟩),(18,⟨[(13,(.s (.int .i64)))],[(13,92)]⟩),(15,⟨[],[(8,9),(72,79)]⟩),(13,⟨[(14,(.s .bool))],[(14,72)]⟩),(12,⟨[(13,(.s (.int .i64)))],[(13,59)]⟩)],[(10,⟨[(13,(.s (.int .i64)))],[(13,59)]⟩)]⟩) Tryz.func105 (by kernel_rfl) (by kernel_rfl) (by kernel_rfl) (Eq.mp (by kernel_rfl) h)
def F103 (d:Option Addr) (n:Int) (name:ByteArray) (k:World) (R:Ending→World→Prop):Prop :=
 Calls Tryz.prog 148 #[(.pointer d),(.int .u64 n),(.int .i64 1)] k (post R fun v w1 =>
 ∃(b:Int) (a:Int),v=(.tuple #[(.int .i64 b),(.int .i64 a)]) ∧
 Br (a != (0:Int))
 (R (.returned (.int .i64 a)) w1)
 (Calls Tryz.prog 149 #[(.string name)] w1 (post R fun v2 g =>
 ∃(j:Bool),v2=(.bool j) ∧
 Br (!j)
 (R (.returned (.int .i64 6)) g)
 (NonNil d fun p22 =>
 LdSl (g.cell? p22) fun i c f =>
 IdxA i c b 8 fun h =>
 St g (h.add 3) (.string name) fun e =>
 R (.returned (.int .i64 0)) e))))
theorem ok103 (d:Option Addr) (n:Int) (name:ByteArray) {w:World}{R:Ending→World→Prop} (h:F103 d n name w R):Calls Tryz.prog 103 #[(.pointer d),(.int .u64 n),(.string name)] w R :=
 vc_calls (pl:=⟨29,⟨[]⟩,[],[]⟩) Tryz.func103 (by kernel_rfl) (by kernel_rfl) (by kernel_rfl) (Eq.mp (by kernel_rfl) h)
def F104 (d:Option Addr) (n:Int) (text:ByteArray) (m:World) (R:Ending→World→Prop):Prop :=
 Calls Tryz.prog 148 #[(.pointer d),(.int .u64 n),(.int .i64 2)] m (post R fun v w1 =>
 ∃(c:Int) (a:Int),v=(.tuple #[(.int .i64 c),(.int .i64 a)]) ∧
 Br (a != (0:Int))
 (R (.returned (.int .i64 a)) w1)
 (Calls Tryz.prog 89 #[(.string text)] w1 (post R fun v2 i =>
 ∃(e:Int) (b:Int),v2=(.tuple #[(.int .i64 e),(.int .i64 b)]) ∧
 Br (b != (0:Int))
 (R (.returned (.int .i64 b)) i)
 (NonNil d fun p27 =>
 LdSl (i.cell? p27) fun k g h =>
 IdxA k g c 8 fun j =>
 St i (j.add 5) (.string text) fun f =>
 R (.returned (.int .i64 0)) f))))
theorem ok104 (d:Option Addr) (n:Int) (text:ByteArray) {w:World}{R:Ending→World→Prop} (h:F104 d n text w R):Calls Tryz.prog 104 #[(.pointer d),(.int .u64 n),(.string text)] w R :=
 vc_calls (pl:=⟨34,⟨[]⟩,[],[]⟩) Tryz.func104 (by kernel_rfl) (by kernel_rfl) (by kernel_rfl) (Eq.mp (by kernel_rfl) h)
def F146_l6 (d:Option Addr) (g4:Addr) (g6:Addr) (gb:Option Addr) (va:Nat) (L6:Int→World→Prop) (i:Int) (hb:World) (R:Ending→World→Prop):Prop :=
 Br (decide (i < ((va:Nat):Int)))
 (IdxA gb va i 1 fun fb =>
 LdI .u64 (hb.cell? fb) fun eb =>
 Calls Tryz.prog 146 #[(.pointer d),(.int .u64 eb)] hb (post R fun v3 y =>
 ∃(h:Int) (m:ByteArray) (j:Option Addr) (b:Nat) (a:Nat) (g:ByteArray) (f:Option Addr) (c:Nat) (e:Nat) (ea:Int),v3=(.tuple #[(.agg #[(.int .i64 h),(.string m),(.slice j b a),(.string g),(.slice f c e)]),(.int .i64 ea)]) ∧
 Al y #[(.int .i64 0),(.string (ByteArray.mk #[])),(.slice none 0 0),(.string (ByteArray.mk #[])),(.slice none 0 0)] 84 fun k z =>
 St z k (.int .i64 h) fun ua =>
 St ua (k.add 1) (.string m) fun aa =>
 St aa (k.add 2) (.slice j b a) fun pa =>
 St pa (k.add 3) (.string g) fun fa =>
 St fa (k.add 4) (.slice f c e) fun qa =>
 LdSl (qa.cell? (g6.add 4)) fun db bb ab =>
 LdI .i64 (qa.cell? k) fun sa =>
 LdStr (qa.cell? (k.add 1)) fun ra =>
 LdSl (qa.cell? (k.add 2)) fun ma n q =>
 LdStr (qa.cell? (k.add 3)) fun ka =>
 LdSl (qa.cell? (k.add 4)) fun ja t v =>
 Al qa #[(.int .i64 sa),(.string ra),(.slice ma n q),(.string ka),(.slice ja t v)] 84 fun g43 ia =>
 Raw Tryz.prog (Builtin.append_ #[82,82] 82 #[(.slice db bb ab),(.slice (some g43) 1 1)]) ia fun v4 ha =>
 ∃(cb:Option Addr) (ya:Nat) (za:Nat),v4=(.slice cb ya za) ∧
 St ha (g6.add 4) (.slice cb ya za) fun ba =>
 InR .i64 (i+(1:Int))∧L6 (i+(1:Int)) ba))
 (LdI .i64 (hb.cell? g6) fun na =>
 LdStr (hb.cell? (g6.add 1)) fun ca =>
 LdSl (hb.cell? (g6.add 2)) fun da r u =>
 LdStr (hb.cell? (g6.add 3)) fun ga =>
 LdSl (hb.cell? (g6.add 4)) fun ta p s =>
 St hb g4 (.int .i64 na) fun y =>
 St y (g4.add 1) (.string ca) fun z =>
 St z (g4.add 2) (.slice da r u) fun ua =>
 St ua (g4.add 3) (.string ga) fun aa =>
 St aa (g4.add 4) (.slice ta p s) fun pa =>
 LdI .i64 (pa.cell? g4) fun res0_0 =>
 LdStr (pa.cell? (g4.add 1)) fun res0_1 =>
 LdSl (pa.cell? (g4.add 2)) fun res0_2 res0_2N res0_2C =>
 LdStr (pa.cell? (g4.add 3)) fun res0_3 =>
 LdSl (pa.cell? (g4.add 4)) fun res0_4 res0_4N res0_4C =>
 R (.returned (.tuple #[(.agg #[(.int .i64 res0_0),(.string res0_1),(.slice res0_2 res0_2N res0_2C),(.string res0_3),(.slice res0_4 res0_4N res0_4C)]),(.int .i64 0)])) pa)
def F146 (d:Option Addr) (n:Int) (w_:World) (R:Ending→World→Prop):Prop :=
 Al w_ #[(.int .i64 0),(.string (ByteArray.mk #[])),(.slice none 0 0),(.string (ByteArray.mk #[])),(.slice none 0 0)] 84 fun g4 w1 =>
 Calls Tryz.prog 48 #[(.pointer d),(.int .u64 n)] w1 (post R fun v qa =>
 ∃(j:Int) (k:ByteArray) (h:Option Addr) (e:Nat) (b:Nat) (g:ByteArray) (f:Option Addr) (a:Nat) (c:Nat) (ca:Int),v=(.tuple #[(.agg #[(.int .i64 j),(.string k),(.slice h e b),(.string g),(.slice f a c)]),(.int .i64 ca)]) ∧
 Al qa #[(.int .i64 0),(.string (ByteArray.mk #[])),(.slice none 0 0),(.string (ByteArray.mk #[])),(.slice none 0 0)] 84 fun g6 ga =>
 St ga g6 (.int .i64 j) fun ka =>
 St ka (g6.add 1) (.string k) fun ja =>
 St ja (g6.add 2) (.slice h e b) fun ha =>
 St ha (g6.add 3) (.string g) fun ma =>
 St ma (g6.add 4) (.slice f a c) fun ra =>
 Br (ca != (0:Int))
 (LdI .i64 (ra.cell? g6) fun da =>
 LdStr (ra.cell? (g6.add 1)) fun u =>
 LdSl (ra.cell? (g6.add 2)) fun ba r s =>
 LdStr (ra.cell? (g6.add 3)) fun y =>
 LdSl (ra.cell? (g6.add 4)) fun ea p q =>
 St ra g4 (.int .i64 da) fun na =>
 St na (g4.add 1) (.string u) fun t =>
 St t (g4.add 2) (.slice ba r s) fun z =>
 St z (g4.add 3) (.string y) fun fa =>
 St fa (g4.add 4) (.slice ea p q) fun aa =>
 LdI .i64 (aa.cell? g4) fun res0_0 =>
 LdStr (aa.cell? (g4.add 1)) fun res0_1 =>
 LdSl (aa.cell? (g4.add 2)) fun res0_2 res0_2N res0_2C =>
 LdStr (aa.cell? (g4.add 3)) fun res0_3 =>
 LdSl (aa.cell? (g4.add 4)) fun res0_4 res0_4N res0_4C =>
 R (.returned (.tuple #[(.agg #[(.int .i64 res0_0),(.string res0_1),(.slice res0_2 res0_2N res0_2C),(.string res0_3),(.slice res0_4 res0_4N res0_4C)]),(.int .i64 ca)])) aa)
 (Calls Tryz.prog 129 #[(.pointer d),(.int .u64 n)] ra (post R fun v2 na =>
 ∃(sa:Option Addr) (ia:Nat) (pa:Nat),v2=(.slice sa ia pa) ∧
 ∃(I:Int→World→Prop) (m:Int→World→Nat),I (0:Int) na ∧
 ∀(i:Int) (t:World),I i t→F146_l6 d g4 g6 sa ia (fun i' w2=>I i' w2∧m i' w2 < m i t) i t R)))
theorem ok146 (d:Option Addr) (n:Int) {w:World}{R:Ending→World→Prop} (h:F146 d n w R):Calls Tryz.prog 146 #[(.pointer d),(.int .u64 n)] w R :=
 vc_calls (pl:=⟨47,⟨[]⟩,[],[(6,⟨[(9,(.s (.int .i64)))],[(9,46)]⟩)]⟩) Tryz.func146 (by kernel_rfl) (by kernel_rfl) (by kernel_rfl) (Eq.mp (by kernel_rfl) h)
def F81_l5 (d:Option Addr) (k:Option Addr) (c:Nat) (L5:Option Addr→Nat→Nat→Int→World→Prop) (l3:Option Addr) (lN3:Nat) (lC3:Nat) (i:Int) (f:World) (R:Ending→World→Prop):Prop :=
 Br (decide (i < ((c:Nat):Int)))
 (IdxA k c i 1 fun h =>
 LdI .u64 (f.cell? h) fun g =>
 Calls Tryz.prog 81 #[(.pointer d),(.int .u64 g),(.slice l3 lN3 lC3)] f (post R fun v2 a =>
 ∃(j:Option Addr) (b:Nat) (e:Nat),v2=(.slice j b e) ∧
 InR .i64 (i+(1:Int))∧L5 j b e (i+(1:Int)) a))
 (R (.returned (.slice l3 lN3 lC3)) f)
def F81_j3 (d:Option Addr) (h_:Int) (l2:Option Addr) (lN2:Nat) (lC2:Nat) (f:World) (R:Ending→World→Prop):Prop :=
 Calls Tryz.prog 129 #[(.pointer d),(.int .u64 h_)] f (post R fun v w1 =>
 ∃(e:Option Addr) (c:Nat) (a:Nat),v=(.slice e c a) ∧
 ∃(I:Option Addr→Nat→Nat→Int→World→Prop) (m:Option Addr→Nat→Nat→Int→World→Nat),I l2 lN2 lC2 (0:Int) w1 ∧
 ∀(l3:Option Addr) (lN3:Nat) (lC3:Nat) (i:Int) (b:World),I l3 lN3 lC3 i b→F81_l5 d e c (fun l3' lN3' lC3' i' w2=>I l3' lN3' lC3' i' w2∧m l3' lN3' lC3' i' w2 < m l3 lN3 lC3 i b) l3 lN3 lC3 i b R)
def F81 (d:Option Addr) (h_:Int) (l:Option Addr) (lN:Nat) (lC:Nat) (f:World) (R:Ending→World→Prop):Prop :=
 ∃J3:Option Addr→Nat→Nat→World→Prop,(∀(l2:Option Addr) (lN2:Nat) (lC2:Nat) (w1:World),J3 l2 lN2 lC2 w1→F81_j3 d h_ l2 lN2 lC2 w1 R) ∧
 (Br (h_ != (0:Int))
 (Al f #[(.int .u64 h_)] 65 fun g13 w1 =>
 Raw Tryz.prog (Builtin.append_ #[23,23] 23 #[(.slice l lN lC),(.slice (some g13) 1 1)]) w1 fun v c =>
 ∃(e:Option Addr) (b:Nat) (a:Nat),v=(.slice e b a) ∧
 J3 e b a c)
 (J3 l lN lC f))
theorem ok81 (d:Option Addr) (h_:Int) (l:Option Addr) (lN:Nat) (lC:Nat) {w:World}{R:Ending→World→Prop} (h:F81 d h_ l lN lC w R):Calls Tryz.prog 81 #[(.pointer d),(.int .u64 h_),(.slice l lN lC)] w R :=
 vc_calls (pl:=⟨32,⟨[]⟩,[(3,⟨[(2,(.s .slice))],[(2,15)]⟩)],[(5,⟨[(2,(.s .slice)),(8,(.s (.int .i64)))],[(2,3),(8,31)]⟩)]⟩) Tryz.func81 (by kernel_rfl) (by kernel_rfl) (by kernel_rfl) (Eq.mp (by kernel_rfl) h)
def F82_j4 (h_:Int) (a:World) (R:Ending→World→Prop):Prop :=
 R (.returned (.int .i64 (((h_.tmod (4294967296:Int)))-(1:Int)))) a
def F82 (d:Option Addr) (h_:Int) (k:World) (R:Ending→World→Prop):Prop :=
 InR .i64 ((h_.tmod (4294967296:Int)))∧InR .i64 (((h_.tmod (4294967296:Int)))-(1:Int))∧∃J4:World→Prop,(∀ (w1:World),J4 w1→F82_j4 h_ w1 R) ∧
 (Br (decide ((((h_.tmod (4294967296:Int)))-(1:Int)) < (0:Int)))
 (R (.returned (.int .i64 (-1))) k)
 (NonNil d fun p15 =>
 LdSl (k.cell? p15) fun j c a =>
 Br (decide ((((h_.tmod (4294967296:Int)))-(1:Int))≥((c:Nat):Int)))
 (R (.returned (.int .i64 (-1))) k)
 (NonNil d fun p23 =>
 LdSl (k.cell? p23) fun f e b =>
 IdxA f e (((h_.tmod (4294967296:Int)))-(1:Int)) 8 fun g =>
 LdB (k.cell? (g.add 1)) fun i =>
 Br (!i)
 (R (.returned (.int .i64 (-1))) k)
 (Calls Tryz.prog 130 #[(.pointer d),(.int .i64 (((h_.tmod (4294967296:Int)))-(1:Int)))] k (post R fun v w1 =>
 ∃(h:Int),v=(.int .u64 h) ∧
 Br (h != h_)
 (R (.returned (.int .i64 (-1))) w1)
 (J4 w1))))))
theorem ok82 (d:Option Addr) (h_:Int) {w:World}{R:Ending→World→Prop} (h:F82 d h_ w R):Calls Tryz.prog 82 #[(.pointer d),(.int .u64 h_)] w R :=
 vc_calls (pl:=⟨40,⟨[]⟩,[(4,⟨[],[(4,5),(10,39)]⟩)],[]⟩) Tryz.func82 (by kernel_rfl) (by kernel_rfl) (by kernel_rfl) (Eq.mp (by kernel_rfl) h)
def F148 (d:Option Addr) (n:Int) (kind:Int) (t:World) (R:Ending→World→Prop):Prop :=
 Calls Tryz.prog 82 #[(.pointer d),(.int .u64 n)] t (post R fun v w1 =>
 ∃(m:Int),v=(.int .i64 m) ∧
 Br (decide (m < (0:Int)))
 (R (.returned (.tuple #[(.int .i64 0),(.int .i64 8)])) w1)
 (NonNil d fun p15 =>
 LdSl (w1.cell? p15) fun s h e =>
 IdxA s h m 8 fun q =>
 LdI .i64 (w1.cell? (q.add 2)) fun k =>
 Br (k != kind)
 (R (.returned (.tuple #[(.int .i64 0),(.int .i64 30)])) w1)
 (Al w1 #[] 162 fun g25 f =>
 NonNil d fun p27 =>
 LdSl (f.cell? p27) fun r c i =>
 Raw Tryz.prog (Builtin.append_ #[22,22] 22 #[(.slice (some g25) 0 0),(.slice r c i)]) f fun v2 a =>
 ∃(p:Option Addr) (g:Nat) (j:Nat),v2=(.slice p g j) ∧
 NonNil d fun p31 =>
 St a p31 (.slice p g j) fun b =>
 R (.returned (.tuple #[(.int .i64 m),(.int .i64 0)])) b)))
theorem ok148 (d:Option Addr) (n:Int) (kind:Int) {w:World}{R:Ending→World→Prop} (h:F148 d n kind w R):Calls Tryz.prog 148 #[(.pointer d),(.int .u64 n),(.int .i64 kind)] w R :=
 vc_calls (pl:=⟨34,⟨[]⟩,[],[]⟩) Tryz.func148 (by kernel_rfl) (by kernel_rfl) (by kernel_rfl) (Eq.mp (by kernel_rfl) h)
def F178_j3 (L2:Int→World→Prop) (i:Int) (a:World) (R:Ending→World→Prop):Prop :=
 InR .i64 (i+(1:Int))∧L2 (i+(1:Int)) a
def F178_l2 (d:Option Addr) (L2:Int→World→Prop) (i:Int) (ha:World) (R:Ending→World→Prop):Prop :=
 NonNil d fun p6 =>
 LdSl (ha.cell? p6) fun x8 u fa =>
 Br (decide (i < ((u:Nat):Int)))
 (∃J3:World→Prop,(∀ (w1:World),J3 w1→F178_j3 L2 i w1 R) ∧
 (NonNil d fun p14 =>
 LdSl (ha.cell? p14) fun ba n j =>
 IdxA ba n i 8 fun ja =>
 LdB (ha.cell? (ja.add 1)) fun ea =>
 Br (!ea)
 (NonNil d fun p24 =>
 LdSl (ha.cell? p24) fun z p k =>
 IdxA z p i 8 fun da =>
 LdI .u32 (ha.cell? da) fun aa =>
 Br (decide (aa < (4294967295:Int)))
 (R (.returned (.int .i64 i)) ha)
 (J3 ha))
 (J3 ha)))
 (Al ha #[] 162 fun g35 w1 =>
 NonNil d fun p37 =>
 LdSl (w1.cell? p37) fun ia c q =>
 Raw Tryz.prog (Builtin.append_ #[22,22] 22 #[(.slice (some g35) 0 0),(.slice ia c q)]) w1 fun v r =>
 ∃(ga:Option Addr) (b:Nat) (t:Nat),v=(.slice ga b t) ∧
 Al r #[(.int .u32 0),(.bool false),(.int .i64 0),(.string (ByteArray.mk #[])),(.slice none 0 0),(.string (ByteArray.mk #[])),(.int .u64 0),(.slice none 0 0)] 162 fun g42 a =>
 Raw Tryz.prog (Builtin.append_ #[22,22] 22 #[(.slice ga b t),(.slice (some g42) 1 1)]) a fun v2 h =>
 ∃(ca:Option Addr) (e:Nat) (m:Nat),v2=(.slice ca e m) ∧
 NonNil d fun p44 =>
 St h p44 (.slice ca e m) fun f =>
 NonNil d fun p47 =>
 LdSl (f.cell? p47) fun y g s =>
 InR .i64 (((g:Nat):Int)-(1:Int))∧R (.returned (.int .i64 (((g:Nat):Int)-(1:Int)))) f)
def F178 (d:Option Addr) (a:World) (R:Ending→World→Prop):Prop :=
 ∃(I:Int→World→Prop) (m:Int→World→Nat),I (0:Int) a ∧
 ∀(i:Int) (w1:World),I i w1→F178_l2 d (fun i' w2=>I i' w2∧m i' w2 < m i w1) i w1 R
theorem ok178 (d:Option Addr) {w:World}{R:Ending→World→Prop} (h:F178 d w R):Calls Tryz.prog 178 #[(.pointer d)] w R :=
 vc_calls (pl:=⟨52,⟨[]⟩,[(3,⟨[],[(2,3),(13,34)]⟩)],[(2,⟨[(3,(.s (.int .i64)))],[(2,34)]⟩)]⟩) Tryz.func178 (by kernel_rfl) (by kernel_rfl) (by kernel_rfl) (Eq.mp (by kernel_rfl) h)
def F141_l2 (d:Option Addr) (L2:Int→Int→World→Prop) (h_2:Int) (n:Int) (i:World) (R:Ending→World→Prop):Prop :=
 Br (h_2 != (0:Int))
 (InR .i64 (n+(1:Int))∧∃S:World→Prop,S i.drew∧NonNil d fun p11 =>
 ∃(e:Option Addr) (c:Nat) (a:Nat),Held S p11 (.slice e c a)∧Calls Tryz.prog 82 #[(.pointer d),(.int .u64 h_2)] i.drew (post R fun v b =>
 ∃(h:Int),v=(.int .i64 h) ∧
 S b∧IdxA e c h 8 fun f =>
 ∃(g:Int),Held S (f.add 6) (.int .u64 g)∧L2 g (n+(1:Int)) b))
 (R (.returned (.int .i64 n)) i)
def F141 (d:Option Addr) (h_:Int) (a:World) (R:Ending→World→Prop):Prop :=
 ∃(I:Int→Int→World→Prop) (m:Int→Int→World→Nat),I h_ ((-1):Int) a ∧
 ∀(h_2:Int) (n:Int) (w1:World),I h_2 n w1→F141_l2 d (fun h_2' n' w2=>I h_2' n' w2∧m h_2' n' w2 < m h_2 n w1) h_2 n w1 R
theorem ok141 (d:Option Addr) (h_:Int) {w:World}{R:Ending→World→Prop} (h:F141 d h_ w R):Calls Tryz.prog 141 #[(.pointer d),(.int .u64 h_)] w R :=
 vc_calls (pl:=⟨21,⟨[]⟩,[],[(2,⟨[(1,(.s (.int .u64))),(5,(.s (.int .i64)))],[(1,20)]⟩)]⟩) Tryz.func141 (by kernel_rfl) (by kernel_rfl) (by kernel_rfl) (Eq.mp (by kernel_rfl) h)
def F143_l10 (d:Option Addr) (pa:Int) (ia:Int) (ea:Option Addr) (u:Nat) (L10:Int→World→Prop) (k:Int) (ma:World) (R:Ending→World→Prop):Prop :=
 Br (decide (k < ((u:Nat):Int)))
 (IdxA ea u k 5 fun ka =>
 LdI .i64 (ma.cell? ka) fun m =>
 LdStr (ma.cell? (ka.add 1)) fun p =>
 LdSl (ma.cell? (ka.add 2)) fun f b a =>
 LdStr (ma.cell? (ka.add 3)) fun j =>
 LdSl (ma.cell? (ka.add 4)) fun q c e =>
 Calls Tryz.prog 143 #[(.pointer d),(.agg #[(.int .i64 m),(.string p),(.slice f b a),(.string j),(.slice q c e)]),(.int .u64 ia)] ma (post R fun v4 i =>
 ∃(fa:Int),v4=(.int .u64 fa) ∧
 ∃S3:World→Prop,S3 i.drew∧NonNil d fun p68 =>
 ∃(ga:Option Addr) (y:Nat) (s:Nat),Held S3 p68 (.slice ga y s)∧NonNil d fun p73 =>
 ∃(da:Option Addr) (aa:Nat) (z:Nat),Held S3 p73 (.slice da aa z)∧IdxA da aa pa 8 fun ha =>
 ∃(ca:Option Addr) (v:Nat) (ba:Nat),Held S3 (ha.add 7) (.slice ca v ba)∧Al i.drew #[(.int .u64 fa)] 65 fun g81 g =>
 S3 g∧Raw Tryz.prog (Builtin.append_ #[23,23] 23 #[(.slice ca v ba),(.slice (some g81) 1 1)]) g fun v5 n =>
 ∃(na:Option Addr) (r:Nat) (t:Nat),v5=(.slice na r t) ∧
 S3 n∧IdxA ga y pa 8 fun ja =>
 St n (ja.add 7) (.slice na r t) fun h =>
 InR .i64 (k+(1:Int))∧L10 (k+(1:Int)) h))
 (R (.returned (.int .u64 ia)) ma)
def F143_j6 (d:Option Addr) (g4:Addr) (bb:Int) (s:Addr) (za:World) (R:Ending→World→Prop):Prop :=
 ∃S2:World→Prop,S2 za.drew∧NonNil d fun p43 =>
 ∃(ya:Option Addr) (ta:Nat) (qa:Nat),Held S2 p43 (.slice ya ta qa)∧∃(fa:Int),Held S2 s (.int .u32 fa)∧∃(ia:Bool),Held S2 (s.add 1) (.bool ia)∧∃(n:Int),Held S2 (s.add 2) (.int .i64 n)∧∃(z:ByteArray),Held S2 (s.add 3) (.string z)∧∃(ca:Option Addr) (a:Nat) (i:Nat),Held S2 (s.add 4) (.slice ca a i)∧∃(p:ByteArray),Held S2 (s.add 5) (.string p)∧∃(q:Int),Held S2 (s.add 6) (.int .u64 q)∧∃(ba:Option Addr) (b:Nat) (c:Nat),Held S2 (s.add 7) (.slice ba b c)∧IdxA ya ta bb 8 fun va =>
 St za.drew va (.int .u32 fa) fun ga =>
 St ga (va.add 1) (.bool ia) fun t =>
 St t (va.add 2) (.int .i64 n) fun ha =>
 St ha (va.add 3) (.string z) fun y =>
 St y (va.add 4) (.slice ca a i) fun v =>
 St v (va.add 5) (.string p) fun r =>
 St r (va.add 6) (.int .u64 q) fun na =>
 St na (va.add 7) (.slice ba b c) fun da =>
 Calls Tryz.prog 130 #[(.pointer d),(.int .i64 bb)] da (post R fun v2 pa =>
 ∃(ab:Int),v2=(.int .u64 ab) ∧
 LdI .i64 (pa.cell? g4) fun u =>
 LdStr (pa.cell? (g4.add 1)) fun j =>
 LdSl (pa.cell? (g4.add 2)) fun ma e h =>
 LdStr (pa.cell? (g4.add 3)) fun ka =>
 LdSl (pa.cell? (g4.add 4)) fun ja f g =>
 Calls Tryz.prog 177 #[(.agg #[(.int .i64 u),(.string j),(.slice ma e h),(.string ka),(.slice ja f g)])] pa (post R fun v3 ea =>
 ∃(ua:Option Addr) (sa:Nat) (ra:Nat),v3=(.slice ua sa ra) ∧
 ∃(I:Int→World→Prop) (m:Int→World→Nat),I (0:Int) ea ∧
 ∀(k:Int) (aa:World),I k aa→F143_l10 d bb ab ua sa (fun k' w2=>I k' w2∧m k' w2 < m k aa) k aa R))
def F143 (d:Option Addr) (x_0:Int) (x_1:ByteArray) (x_2:Option Addr) (x_2N:Nat) (x_2C:Nat) (x_3:ByteArray) (x_4:Option Addr) (x_4N:Nat) (x_4C:Nat) (parent:Int) (w_:World) (R:Ending→World→Prop):Prop :=
 Al w_ #[(.int .i64 x_0),(.string x_1),(.slice x_2 x_2N x_2C),(.string x_3),(.slice x_4 x_4N x_4C)] 84 fun g4 w1 =>
 Calls Tryz.prog 178 #[(.pointer d)] w1 (post R fun v aa =>
 ∃(ga:Int),v=(.int .i64 ga) ∧
 ∃S:World→Prop,S aa.drew∧NonNil d fun p16 =>
 ∃(fa:Option Addr) (t:Nat) (q:Nat),Held S p16 (.slice fa t q)∧IdxA fa t ga 8 fun ma =>
 ∃(ca:Int),Held S ma (.int .u32 ca)∧InR .u32 (ca+(1:Int))∧∃(da:Int),Held S g4 (.int .i64 da)∧Al aa.drew #[(.int .u32 0),(.bool false),(.int .i64 0),(.string (ByteArray.mk #[])),(.slice none 0 0),(.string (ByteArray.mk #[])),(.int .u64 0),(.slice none 0 0)] 162 fun s n =>
 S n∧St n s (.int .u32 (ca+(1:Int))) fun m =>
 St m (s.add 1) (.bool true) fun j =>
 St j (s.add 2) (.int .i64 da) fun u =>
 St u (s.add 3) (.string (ByteArray.mk #[])) fun ba =>
 St ba (s.add 4) (.slice none 0 0) fun y =>
 St y (s.add 5) (.string (ByteArray.mk #[])) fun a =>
 St a (s.add 6) (.int .u64 parent) fun b =>
 St b (s.add 7) (.slice none 0 0) fun i =>
 ∃J6:World→Prop,(∀ (c:World),J6 c→F143_j6 d g4 ga s c R) ∧
 (LdI .i64 (i.cell? g4) fun ea =>
 Br (ea == (2:Int))
 (LdStr (i.cell? (g4.add 3)) fun ha =>
 St i (s.add 5) (.string ha) fun c =>
 J6 c)
 (∃S2:World→Prop,S2 i.drew∧∃(ja:ByteArray),Held S2 (g4.add 1) (.string ja)∧∃(ia:Option Addr) (r:Nat) (p:Nat),Held S2 (g4.add 2) (.slice ia r p)∧Al i.drew #[] 205 fun g36 g =>
 S2 g∧Raw Tryz.prog (Builtin.append_ #[81,81] 81 #[(.slice (some g36) 0 0),(.slice ia r p)]) g fun v2 e =>
 ∃(ka:Option Addr) (k:Nat) (z:Nat),v2=(.slice ka k z) ∧
 S2 e∧St e (s.add 3) (.string ja) fun h =>
 St h (s.add 4) (.slice ka k z) fun f =>
 J6 f)))
theorem ok143 (d:Option Addr) (x_0:Int) (x_1:ByteArray) (x_2:Option Addr) (x_2N:Nat) (x_2C:Nat) (x_3:ByteArray) (x_4:Option Addr) (x_4N:Nat) (x_4C:Nat) (parent:Int) {w:World}{R:Ending→World→Prop} (h:F143 d x_0 x_1 x_2 x_2N x_2C x_3 x_4 x_4N x_4C parent w R):Calls Tryz.prog 143 #[(.pointer d),(.agg #[(.int .i64 x_0),(.string x_1),(.slice x_2 x_2N x_2C),(.string x_3),(.slice x_4 x_4N x_4C)]),(.int .u64 parent)] w R :=
 vc_calls (pl:=⟨86,⟨[]⟩,[(6,⟨[],[(28,42)]⟩)],[(10,⟨[(11,(.s (.int .i64)))],[(11,85)]⟩)]⟩) Tryz.func143 (by kernel_rfl) (by kernel_rfl) (by kernel_rfl) (Eq.mp (by kernel_rfl) h)
def F147 (d:Option Addr) (n:Int) (w_:World) (R:Ending→World→Prop):Prop :=
 ∃S:World→Prop,S w_.drew∧NonNil d fun p8 =>
 ∃(u:Option Addr) (e:Nat) (k:Nat),Held S p8 (.slice u e k)∧Calls Tryz.prog 82 #[(.pointer d),(.int .u64 n)] w_.drew (post R fun v r =>
 ∃(da:Int),v=(.int .i64 da) ∧
 S r∧IdxA u e da 8 fun ba =>
 ∃(z:Int),Held S (ba.add 6) (.int .u64 z)∧Calls Tryz.prog 129 #[(.pointer d),(.int .u64 z)] r (post R fun v2 a =>
 ∃(aa:Option Addr) (h:Nat) (j:Nat),v2=(.slice aa h j) ∧
 Calls Tryz.prog 179 #[(.slice aa h j),(.int .u64 n)] a (post R fun v3 g =>
 ∃(t:Int),v3=(.int .i64 t) ∧
 ∃S2:World→Prop,S2 g.drew∧SlB 0 t ((j:Nat):Int)
 (InR .i64 (t+(1:Int))∧SlB (t+(1:Int)) ((h:Nat):Int) ((j:Nat):Int)
 (Al g.drew #[] 65 fun g25 b =>
 Raw Tryz.prog (Builtin.append_ #[23,23] 23 #[(.slice (some g25) 0 0),(.slice aa (t).toNat j)]) b fun v4 m =>
 ∃(y:Option Addr) (c:Nat) (i:Nat),v4=(.slice y c i) ∧
 Raw Tryz.prog (Builtin.append_ #[23,23] 23 #[(.slice y c i),(.slice (SlA aa j ((t+(1:Int))).toNat 1) ((((h:Nat):Int)).toNat-((t+(1:Int))).toNat) (j-((t+(1:Int))).toNat))]) m fun v5 s =>
 ∃(ca:Option Addr) (p:Nat) (f:Nat),v5=(.slice ca p f) ∧
 Calls Tryz.prog 180 #[(.pointer d),(.int .u64 z),(.slice ca p f)] s (post R fun v6 q =>
 v6=(.tuple #[]) ∧
 R (.returned (.tuple #[])) q))))))
theorem ok147 (d:Option Addr) (n:Int) {w:World}{R:Ending→World→Prop} (h:F147 d n w R):Calls Tryz.prog 147 #[(.pointer d),(.int .u64 n)] w R :=
 vc_calls (pl:=⟨36,⟨[]⟩,[],[]⟩) Tryz.func147 (by kernel_rfl) (by kernel_rfl) (by kernel_rfl) (Eq.mp (by kernel_rfl) h)
def F138_j8 (at_:Int) (a:World) (R:Ending→World→Prop):Prop :=
 R (.returned (.tuple #[(.int .u64 at_),(.int .i64 0)])) a
def F138_j5 (d:Option Addr) (where_:Int) (at_:Int) (g:World) (R:Ending→World→Prop):Prop :=
 Br (decide (where_≤(2:Int)))
 (∃J8:World→Prop,(∀ (w1:World),J8 w1→F138_j8 at_ w1 R) ∧
 (∃S:World→Prop,S g.drew∧Br (at_ != (0:Int))
 (NonNil d fun p36 =>
 ∃(j:Option Addr) (a:Nat) (b:Nat),Held S p36 (.slice j a b)∧Calls Tryz.prog 82 #[(.pointer d),(.int .u64 at_)] g.drew (post R fun v c =>
 ∃(m:Int),v=(.int .i64 m) ∧
 S c∧IdxA j a m 8 fun h =>
 ∃(n:Int),Held S (h.add 2) (.int .i64 n)∧Br (n == (2:Int))
 (R (.returned (.tuple #[(.int .u64 0),(.int .i64 31)])) c)
 (J8 c)))
 (J8 g.drew)))
 (∃S:World→Prop,S g.drew∧NonNil d fun p49 =>
 ∃(k:Option Addr) (e:Nat) (f:Nat),Held S p49 (.slice k e f)∧Calls Tryz.prog 82 #[(.pointer d),(.int .u64 at_)] g.drew (post R fun v c =>
 ∃(p:Int),v=(.int .i64 p) ∧
 S c∧IdxA k e p 8 fun i =>
 ∃(q:Int),Held S (i.add 6) (.int .u64 q)∧R (.returned (.tuple #[(.int .u64 q),(.int .i64 0)])) c))
def F138_j3 (d:Option Addr) (where_:Int) (at_:Int) (b:World) (R:Ending→World→Prop):Prop :=
 ∃J5:World→Prop,(∀ (w1:World),J5 w1→F138_j5 d where_ at_ w1 R) ∧
 (Br (at_ != (0:Int))
 (Calls Tryz.prog 80 #[(.pointer d),(.int .u64 at_)] b (post R fun v w1 =>
 ∃(a:Bool),v=(.bool a) ∧
 Br (!a)
 (R (.returned (.tuple #[(.int .u64 0),(.int .i64 8)])) w1)
 (J5 w1)))
 (J5 b))
def F138 (d:Option Addr) (where_:Int) (at_:Int) (a:World) (R:Ending→World→Prop):Prop :=
 ∃J3:World→Prop,(∀ (w1:World),J3 w1→F138_j3 d where_ at_ w1 R) ∧
 (Br (decide (where_ < (1:Int)))
 (R (.returned (.tuple #[(.int .u64 0),(.int .i64 1)])) a)
 (Br (decide (where_ > (4:Int)))
 (R (.returned (.tuple #[(.int .u64 0),(.int .i64 1)])) a)
 (Br (at_ == (0:Int))
 (Br (decide (where_ > (2:Int)))
 (R (.returned (.tuple #[(.int .u64 0),(.int .i64 1)])) a)
 (J3 a))
 (J3 a))))
theorem ok138 (d:Option Addr) (where_:Int) (at_:Int) {w:World}{R:Ending→World→Prop} (h:F138 d where_ at_ w R):Calls Tryz.prog 138 #[(.pointer d),(.int .i64 where_),(.int .u64 at_)] w R :=
 vc_calls (pl:=⟨58,⟨[]⟩,[(8,⟨[],[(6,47)]⟩),(5,⟨[],[(6,30)]⟩),(3,⟨[],[(6,22)]⟩)],[]⟩) Tryz.func138 (by kernel_rfl) (by kernel_rfl) (by kernel_rfl) (Eq.mp (by kernel_rfl) h)
def F144_j9 (d:Option Addr) (n:Int) (parent:Int) (aa:Option Addr) (t:Nat) (e:Nat) (k:Int) (da:World) (R:Ending→World→Prop):Prop :=
 Al da #[] 65 fun g32 y =>
 SlB 0 k ((e:Nat):Int)
 (Raw Tryz.prog (Builtin.append_ #[23,23] 23 #[(.slice (some g32) 0 0),(.slice aa (k).toNat e)]) y fun v2 b =>
 ∃(ca:Option Addr) (g:Nat) (s:Nat),v2=(.slice ca g s) ∧
 Al b #[(.int .u64 n)] 65 fun g38 m =>
 Raw Tryz.prog (Builtin.append_ #[23,23] 23 #[(.slice ca g s),(.slice (some g38) 1 1)]) m fun v3 i =>
 ∃(ga:Option Addr) (f:Nat) (v:Nat),v3=(.slice ga f v) ∧
 SlB k ((t:Nat):Int) ((e:Nat):Int)
 (Raw Tryz.prog (Builtin.append_ #[23,23] 23 #[(.slice ga f v),(.slice (SlA aa e (k).toNat 1) ((((t:Nat):Int)).toNat-(k).toNat) (e-(k).toNat))]) i fun v4 c =>
 ∃(z:Option Addr) (j:Nat) (h:Nat),v4=(.slice z j h) ∧
 Calls Tryz.prog 180 #[(.pointer d),(.int .u64 parent),(.slice z j h)] c (post R fun v5 q =>
 v5=(.tuple #[]) ∧
 ∃S:World→Prop,S q.drew∧NonNil d fun p49 =>
 ∃(ea:Option Addr) (r:Nat) (p:Nat),Held S p49 (.slice ea r p)∧Calls Tryz.prog 82 #[(.pointer d),(.int .u64 n)] q.drew (post R fun v6 u =>
 ∃(ba:Int),v6=(.int .i64 ba) ∧
 S u∧IdxA ea r ba 8 fun fa =>
 St u (fa.add 6) (.int .u64 parent) fun a =>
 R (.returned (.tuple #[])) a))))
def F144 (d:Option Addr) (n:Int) (parent:Int) (where_:Int) (at_:Int) (h:World) (R:Ending→World→Prop):Prop :=
 Calls Tryz.prog 129 #[(.pointer d),(.int .u64 parent)] h (post R fun v w1 =>
 ∃(e:Option Addr) (a:Nat) (b:Nat),v=(.slice e a b) ∧
 ∃J9:Int→World→Prop,(∀(k:Int) (c:World),J9 k c→F144_j9 d n parent e a b k c R) ∧
 (Br (where_ == (2:Int))
 (J9 ((a:Nat):Int) w1)
 (Br (where_ == (3:Int))
 (Calls Tryz.prog 179 #[(.slice e a b),(.int .u64 at_)] w1 (post R fun v2 c =>
 ∃(f:Int),v2=(.int .i64 f) ∧
 J9 f c))
 (Br (where_ == (4:Int))
 (Calls Tryz.prog 179 #[(.slice e a b),(.int .u64 at_)] w1 (post R fun v2 c =>
 ∃(g:Int),v2=(.int .i64 g) ∧
 InR .i64 (g+(1:Int))∧J9 (g+(1:Int)) c))
 (J9 (0:Int) w1)))))
theorem ok144 (d:Option Addr) (n:Int) (parent:Int) (where_:Int) (at_:Int) {w:World}{R:Ending→World→Prop} (h:F144 d n parent where_ at_ w R):Calls Tryz.prog 144 #[(.pointer d),(.int .u64 n),(.int .u64 parent),(.int .i64 where_),(.int .u64 at_)] w R :=
 vc_calls (pl:=⟨58,⟨[]⟩,[(9,⟨[(11,(.s (.int .i64)))],[(11,32)]⟩)],[]⟩) Tryz.func144 (by kernel_rfl) (by kernel_rfl) (by kernel_rfl) (Eq.mp (by kernel_rfl) h)
def F180 (d:Option Addr) (h_:Int) (l:Option Addr) (lN:Nat) (lC:Nat) (i:World) (R:Ending→World→Prop):Prop :=
 Br (h_ == (0:Int))
 (NonNil d fun p10 =>
 St i (p10.add 1) (.slice l lN lC) fun w1 =>
 R (.returned (.tuple #[])) w1)
 (∃S:World→Prop,S i.drew∧NonNil d fun p13 =>
 ∃(f:Option Addr) (b:Nat) (c:Nat),Held S p13 (.slice f b c)∧Calls Tryz.prog 82 #[(.pointer d),(.int .u64 h_)] i.drew (post R fun v e =>
 ∃(g:Int),v=(.int .i64 g) ∧
 S e∧IdxA f b g 8 fun h =>
 St e (h.add 7) (.slice l lN lC) fun a =>
 R (.returned (.tuple #[])) a))
theorem ok180 (d:Option Addr) (h_:Int) (l:Option Addr) (lN:Nat) (lC:Nat) {w:World}{R:Ending→World→Prop} (h:F180 d h_ l lN lC w R):Calls Tryz.prog 180 #[(.pointer d),(.int .u64 h_),(.slice l lN lC)] w R :=
 vc_calls (pl:=⟨22,⟨[]⟩,[],[]⟩) Tryz.func180 (by kernel_rfl) (by kernel_rfl) (by kernel_rfl) (Eq.mp (by kernel_rfl) h)
def F142_j4 (L3:Int→Int→World→Prop) (i:Int) (n2:Int) (a:World) (R:Ending→World→Prop):Prop :=
 InR .i64 (i+(1:Int))∧L3 n2 (i+(1:Int)) a
def F142_l3 (d:Option Addr) (L3:Int→Int→World→Prop) (n:Int) (i:Int) (r:World) (R:Ending→World→Prop):Prop :=
 NonNil d fun p7 =>
 LdSl (r.cell? p7) fun s k p =>
 Br (decide (i < ((k:Nat):Int)))
 (∃J4:Int→World→Prop,(∀(n2:Int) (w1:World),J4 n2 w1→F142_j4 L3 i n2 w1 R) ∧
 (NonNil d fun p15 =>
 LdSl (r.cell? p15) fun q e a =>
 IdxA q e i 8 fun m =>
 LdB (r.cell? (m.add 1)) fun g =>
 Br g
 (InR .i64 (n+(1:Int))∧J4 (n+(1:Int)) r)
 (NonNil d fun p24 =>
 LdSl (r.cell? p24) fun f b c =>
 IdxA f b i 8 fun h =>
 LdI .u32 (r.cell? h) fun j =>
 Br (j == (4294967295:Int))
 (InR .i64 (n+(1:Int))∧J4 (n+(1:Int)) r)
 (J4 n r))))
 (R (.returned (.int .i64 n)) r)
def F142 (d:Option Addr) (a:World) (R:Ending→World→Prop):Prop :=
 ∃(I:Int→Int→World→Prop) (m:Int→Int→World→Nat),I (0:Int) (0:Int) a ∧
 ∀(n:Int) (i:Int) (w1:World),I n i w1→F142_l3 d (fun n' i' w2=>I n' i' w2∧m n' i' w2 < m n i w1) n i w1 R
theorem ok142 (d:Option Addr) {w:World}{R:Ending→World→Prop} (h:F142 d w R):Calls Tryz.prog 142 #[(.pointer d)] w R :=
 vc_calls (pl:=⟨36,⟨[]⟩,[(4,⟨[(3,(.s (.int .i64)))],[(3,4),(14,35)]⟩)],[(3,⟨[(3,(.s (.int .i64))),(4,(.s (.int .i64)))],[(3,35)]⟩)]⟩) Tryz.func142 (by kernel_rfl) (by kernel_rfl) (by kernel_rfl) (Eq.mp (by kernel_rfl) h)
def F145_j3 (n:Int) (h_2:Int) (a:World) (R:Ending→World→Prop):Prop :=
 R (.returned (.bool (h_2 == n))) a
def F145_j2 (d:Option Addr) (L1:Int→World→Prop) (h_2:Int) (e:World) (R:Ending→World→Prop):Prop :=
 ∃S:World→Prop,S e.drew∧NonNil d fun p15 =>
 ∃(i:Option Addr) (c:Nat) (a:Nat),Held S p15 (.slice i c a)∧Calls Tryz.prog 82 #[(.pointer d),(.int .u64 h_2)] e.drew (post R fun v b =>
 ∃(g:Int),v=(.int .i64 g) ∧
 S b∧IdxA i c g 8 fun h =>
 ∃(f:Int),Held S (h.add 6) (.int .u64 f)∧L1 f b)
def F145_l1 (d:Option Addr) (n:Int) (J3:Int→World→Prop) (L1:Int→World→Prop) (h_2:Int) (a:World) (R:Ending→World→Prop):Prop :=
 ∃J2:World→Prop,(∀ (w1:World),J2 w1→F145_j2 d L1 h_2 w1 R) ∧
 (Br (h_2 != (0:Int))
 (Br (h_2 != n)
 (J2 a)
 (J3 h_2 a))
 (J3 h_2 a))
def F145 (d:Option Addr) (h_:Int) (n:Int) (a:World) (R:Ending→World→Prop):Prop :=
 ∃J3:Int→World→Prop,(∀(h_2:Int) (w1:World),J3 h_2 w1→F145_j3 n h_2 w1 R) ∧
 (∃(I:Int→World→Prop) (m:Int→World→Nat),I h_ a ∧
 ∀(h_2:Int) (w1:World),I h_2 w1→F145_l1 d n J3 (fun h_2' w2=>I h_2' w2∧m h_2' w2 < m h_2 w1) h_2 w1 R)
theorem ok145 (d:Option Addr) (h_:Int) (n:Int) {w:World}{R:Ending→World→Prop} (h:F145 d h_ n w R):Calls Tryz.prog 145 #[(.pointer d),(.int .u64 h_),(.int .u64 n)] w R :=
 vc_calls (pl:=⟨27,⟨[]⟩,[(2,⟨[],[(7,14)]⟩),(3,⟨[(1,(.s (.int .u64)))],[(1,2),(7,24)]⟩)],[(1,⟨[(1,(.s (.int .u64)))],[(1,2),(7,24)]⟩)]⟩) Tryz.func145 (by kernel_rfl) (by kernel_rfl) (by kernel_rfl) (Eq.mp (by kernel_rfl) h)
def F139 (x_0:Int) (x_1:ByteArray) (x_2:Option Addr) (x_2N:Nat) (x_2C:Nat) (x_3:ByteArray) (x_4:Option Addr) (x_4N:Nat) (x_4C:Nat) (n:World) (R:Ending→World→Prop):Prop :=
 Al n #[(.int .i64 x_0),(.string x_1),(.slice x_2 x_2N x_2C),(.string x_3),(.slice x_4 x_4N x_4C)] 84 fun g1 w1 =>
 LdI .i64 (w1.cell? g1) fun i =>
 LdStr (w1.cell? (g1.add 1)) fun f =>
 LdSl (w1.cell? (g1.add 2)) fun k d a =>
 LdStr (w1.cell? (g1.add 3)) fun h =>
 LdSl (w1.cell? (g1.add 4)) fun j b c =>
 Calls Tryz.prog 176 #[(.agg #[(.int .i64 i),(.string f),(.slice k d a),(.string h),(.slice j b c)]),(.int .i64 1),(.int .i64 0)] w1 (post R fun v g =>
 ∃(e:Int) (m:Int),v=(.tuple #[(.int .i64 e),(.int .i64 m)]) ∧
 R (.returned (.int .i64 m)) g)
theorem ok139 (x_0:Int) (x_1:ByteArray) (x_2:Option Addr) (x_2N:Nat) (x_2C:Nat) (x_3:ByteArray) (x_4:Option Addr) (x_4N:Nat) (x_4C:Nat) {w:World}{R:Ending→World→Prop} (h:F139 x_0 x_1 x_2 x_2N x_2C x_3 x_4 x_4N x_4C w R):Calls Tryz.prog 139 #[(.agg #[(.int .i64 x_0),(.string x_1),(.slice x_2 x_2N x_2C),(.string x_3),(.slice x_4 x_4N x_4C)])] w R :=
 vc_calls (pl:=⟨11,⟨[]⟩,[],[]⟩) Tryz.func139 (by kernel_rfl) (by kernel_rfl) (by kernel_rfl) (Eq.mp (by kernel_rfl) h)
def F158_j8 (l:Option Addr) (lN:Nat) (L4:Int→World→Prop) (i:Int) (c:World) (R:Ending→World→Prop):Prop :=
 IdxA l lN i 2 fun d =>
 LdStr (c.cell? (d.add 1)) fun e =>
 Calls Tryz.prog 89 #[(.string e)] c (post R fun v w1 =>
 ∃(a:Int) (b:Int),v=(.tuple #[(.int .i64 a),(.int .i64 b)]) ∧
 Br (b != (0:Int))
 (R (.returned (.int .i64 b)) w1)
 (InR .i64 (i+(1:Int))∧L4 (i+(1:Int)) w1))
def F158_l4 (l:Option Addr) (lN:Nat) (L4:Int→World→Prop) (i:Int) (j:World) (R:Ending→World→Prop):Prop :=
 Br (decide (i < ((lN:Nat):Int)))
 (∃J8:World→Prop,(∀ (w1:World),J8 w1→F158_j8 l lN L4 i w1 R) ∧
 (∃S:World→Prop,S j.drew∧IdxA l lN i 2 fun c =>
 ∃(g:ByteArray),Held S c (.string g)∧Calls Tryz.prog 149 #[(.string g)] j.drew (post R fun v a =>
 ∃(f:Bool),v=(.bool f) ∧
 S a∧Br (!f)
 (R (.returned (.int .i64 6)) a)
 (Br (decide (i > (0:Int)))
 (IdxA l lN i 2 fun d =>
 ∃(e:ByteArray),Held S d (.string e)∧InR .i64 (i-(1:Int))∧IdxA l lN (i-(1:Int)) 2 fun b =>
 ∃(h:ByteArray),Held S b (.string h)∧Br ((Op.bytesLess e.toList h.toList) || (e.toList == h.toList))
 (R (.returned (.int .i64 6)) a)
 (J8 a))
 (J8 a)))))
 (R (.returned (.int .i64 0)) j)
def F158 (l:Option Addr) (lN:Nat) (lC:Nat) (a:World) (R:Ending→World→Prop):Prop :=
 Br (decide (((lN:Nat):Int) > (32:Int)))
 (R (.returned (.int .i64 2)) a)
 (∃(I:Int→World→Prop) (m:Int→World→Nat),I (0:Int) a ∧
 ∀(i:Int) (w1:World),I i w1→F158_l4 l lN (fun i' w2=>I i' w2∧m i' w2 < m i w1) i w1 R)
theorem ok158 (l:Option Addr) (lN:Nat) (lC:Nat) {w:World}{R:Ending→World→Prop} (h:F158 l lN lC w R):Calls Tryz.prog 158 #[(.slice l lN lC)] w R :=
 vc_calls (pl:=⟨52,⟨[]⟩,[(8,⟨[],[(2,3),(15,40)]⟩)],[(4,⟨[(3,(.s (.int .i64)))],[(2,52)]⟩)]⟩) Tryz.func158 (by kernel_rfl) (by kernel_rfl) (by kernel_rfl) (Eq.mp (by kernel_rfl) h)
def F176_l9 (deep:Int) (r:Option Addr) (p:Nat) (L9:Int→Int→World→Prop) (n2:Int) (i:Int) (q:World) (R:Ending→World→Prop):Prop :=
 Br (decide (i < ((p:Nat):Int)))
 (IdxA r p i 5 fun s =>
 LdI .i64 (q.cell? s) fun j =>
 LdStr (q.cell? (s.add 1)) fun e =>
 LdSl (q.cell? (s.add 2)) fun f c d =>
 LdStr (q.cell? (s.add 3)) fun m =>
 LdSl (q.cell? (s.add 4)) fun g b a =>
 InR .i64 (deep+(1:Int))∧Calls Tryz.prog 176 #[(.agg #[(.int .i64 j),(.string e),(.slice f c d),(.string m),(.slice g b a)]),(.int .i64 (deep+(1:Int))),(.int .i64 n2)] q (post R fun v3 n =>
 ∃(h:Int) (k:Int),v3=(.tuple #[(.int .i64 h),(.int .i64 k)]) ∧
 Br (k != (0:Int))
 (R (.returned (.tuple #[(.int .i64 h),(.int .i64 k)])) n)
 (InR .i64 (i+(1:Int))∧L9 h (i+(1:Int)) n)))
 (R (.returned (.tuple #[(.int .i64 n2),(.int .i64 0)])) q)
def F176_j3 (deep:Int) (n:Int) (g3:Addr) (ha:World) (R:Ending→World→Prop):Prop :=
 LdI .i64 (ha.cell? g3) fun s =>
 LdStr (ha.cell? (g3.add 1)) fun q =>
 LdSl (ha.cell? (g3.add 2)) fun t h b =>
 LdStr (ha.cell? (g3.add 3)) fun y =>
 LdSl (ha.cell? (g3.add 4)) fun j g e =>
 Calls Tryz.prog 118 #[(.agg #[(.int .i64 s),(.string q),(.slice t h b),(.string y),(.slice j g e)])] ha (post R fun v da =>
 ∃(ga:Int),v=(.int .i64 ga) ∧
 Br (ga != (0:Int))
 (R (.returned (.tuple #[(.int .i64 n),(.int .i64 ga)])) da)
 (InR .i64 (n+(1:Int))∧LdI .i64 (da.cell? g3) fun u =>
 LdStr (da.cell? (g3.add 1)) fun r =>
 LdSl (da.cell? (g3.add 2)) fun k a f =>
 LdStr (da.cell? (g3.add 3)) fun p =>
 LdSl (da.cell? (g3.add 4)) fun z c d =>
 Calls Tryz.prog 177 #[(.agg #[(.int .i64 u),(.string r),(.slice k a f),(.string p),(.slice z c d)])] da (post R fun v2 aa =>
 ∃(fa:Option Addr) (ea:Nat) (ca:Nat),v2=(.slice fa ea ca) ∧
 ∃(I:Int→Int→World→Prop) (m:Int→Int→World→Nat),I (n+(1:Int)) (0:Int) aa ∧
 ∀(n2:Int) (i:Int) (ba:World),I n2 i ba→F176_l9 deep fa ea (fun n2' i' w2=>I n2' i' w2∧m n2' i' w2 < m n2 i ba) n2 i ba R)))
def F176 (x_0:Int) (x_1:ByteArray) (x_2:Option Addr) (x_2N:Nat) (x_2C:Nat) (x_3:ByteArray) (x_4:Option Addr) (x_4N:Nat) (x_4C:Nat) (deep:Int) (n:Int) (b:World) (R:Ending→World→Prop):Prop :=
 Al b #[(.int .i64 x_0),(.string x_1),(.slice x_2 x_2N x_2C),(.string x_3),(.slice x_4 x_4N x_4C)] 84 fun g3 w1 =>
 ∃J3:World→Prop,(∀ (a:World),J3 a→F176_j3 deep n g3 a R) ∧
 (Br (decide (deep > (64:Int)))
 (R (.returned (.tuple #[(.int .i64 n),(.int .i64 2)])) w1)
 (Br (decide (n≥(4096:Int)))
 (R (.returned (.tuple #[(.int .i64 n),(.int .i64 2)])) w1)
 (J3 w1)))
theorem ok176 (x_0:Int) (x_1:ByteArray) (x_2:Option Addr) (x_2N:Nat) (x_2C:Nat) (x_3:ByteArray) (x_4:Option Addr) (x_4N:Nat) (x_4C:Nat) (deep:Int) (n:Int) {w:World}{R:Ending→World→Prop} (h:F176 x_0 x_1 x_2 x_2N x_2C x_3 x_4 x_4N x_4C deep n w R):Calls Tryz.prog 176 #[(.agg #[(.int .i64 x_0),(.string x_1),(.slice x_2 x_2N x_2C),(.string x_3),(.slice x_4 x_4N x_4C)]),(.int .i64 deep),(.int .i64 n)] w R :=
 vc_calls (pl:=⟨51,⟨[]⟩,[(3,⟨[],[(6,19)]⟩)],[(9,⟨[(2,(.s (.int .i64))),(10,(.s (.int .i64)))],[(2,8),(10,50)]⟩)]⟩) Tryz.func176 (by kernel_rfl) (by kernel_rfl) (by kernel_rfl) (Eq.mp (by kernel_rfl) h)
def F179_l2 (l:Option Addr) (lN:Nat) (h_:Int) (L2:Int→World→Prop) (i:Int) (c:World) (R:Ending→World→Prop):Prop :=
 Br (decide (i < ((lN:Nat):Int)))
 (IdxA l lN i 1 fun b =>
 LdI .u64 (c.cell? b) fun a =>
 Br (a == h_)
 (R (.returned (.int .i64 i)) c)
 (InR .i64 (i+(1:Int))∧L2 (i+(1:Int)) c))
 (R (.returned (.int .i64 (-1))) c)
def F179 (l:Option Addr) (lN:Nat) (lC:Nat) (h_:Int) (a:World) (R:Ending→World→Prop):Prop :=
 ∃(I:Int→World→Prop) (m:Int→World→Nat),I (0:Int) a ∧
 ∀(i:Int) (w1:World),I i w1→F179_l2 l lN h_ (fun i' w2=>I i' w2∧m i' w2 < m i w1) i w1 R
theorem ok179 (l:Option Addr) (lN:Nat) (lC:Nat) (h_:Int) {w:World}{R:Ending→World→Prop} (h:F179 l lN lC h_ w R):Calls Tryz.prog 179 #[(.slice l lN lC),(.int .u64 h_)] w R :=
 vc_calls (pl:=⟨19,⟨[]⟩,[],[(2,⟨[(5,(.s (.int .i64)))],[(4,19)]⟩)]⟩) Tryz.func179 (by kernel_rfl) (by kernel_rfl) (by kernel_rfl) (Eq.mp (by kernel_rfl) h)
def F177 (x_0:Int) (x_1:ByteArray) (x_2:Option Addr) (x_2N:Nat) (x_2C:Nat) (x_3:ByteArray) (x_4:Option Addr) (x_4N:Nat) (x_4C:Nat) (c:World) (R:Ending→World→Prop):Prop :=
 Al c #[(.int .i64 x_0),(.string x_1),(.slice x_2 x_2N x_2C),(.string x_3),(.slice x_4 x_4N x_4C)] 84 fun g1 w1 =>
 LdI .i64 (w1.cell? g1) fun e =>
 Br (e == (1:Int))
 (LdSl (w1.cell? (g1.add 4)) fun d a b =>
 R (.returned (.slice d a b)) w1)
 (R (.returned (.slice none 0 0)) w1)
theorem ok177 (x_0:Int) (x_1:ByteArray) (x_2:Option Addr) (x_2N:Nat) (x_2C:Nat) (x_3:ByteArray) (x_4:Option Addr) (x_4N:Nat) (x_4C:Nat) {w:World}{R:Ending→World→Prop} (h:F177 x_0 x_1 x_2 x_2N x_2C x_3 x_4 x_4N x_4C w R):Calls Tryz.prog 177 #[(.agg #[(.int .i64 x_0),(.string x_1),(.slice x_2 x_2N x_2C),(.string x_3),(.slice x_4 x_4N x_4C)])] w R :=
 vc_calls (pl:=⟨8,⟨[]⟩,[],[]⟩) Tryz.func177 (by kernel_rfl) (by kernel_rfl) (by kernel_rfl) (Eq.mp (by kernel_rfl) h)
def F118 (x_0:Int) (x_1:ByteArray) (x_2:Option Addr) (x_2N:Nat) (x_2C:Nat) (x_3:ByteArray) (x_4:Option Addr) (x_4N:Nat) (x_4C:Nat) (m:World) (R:Ending→World→Prop):Prop :=
 Al m #[(.int .i64 x_0),(.string x_1),(.slice x_2 x_2N x_2C),(.string x_3),(.slice x_4 x_4N x_4C)] 84 fun g1 w1 =>
 LdI .i64 (w1.cell? g1) fun n =>
 Br (n == (1:Int))
 (LdStr (w1.cell? (g1.add 1)) fun h =>
 Calls Tryz.prog 149 #[(.string h)] w1 (post R fun v e =>
 ∃(i:Bool),v=(.bool i) ∧
 Br (!i)
 (R (.returned (.int .i64 6)) e)
 (LdSl (e.cell? (g1.add 2)) fun k f d =>
 Calls Tryz.prog 158 #[(.slice k f d)] e (post R fun v2 c =>
 ∃(g:Int),v2=(.int .i64 g) ∧
 R (.returned (.int .i64 g)) c))))
 (Br (n == (2:Int))
 (LdStr (w1.cell? (g1.add 3)) fun j =>
 Calls Tryz.prog 89 #[(.string j)] w1 (post R fun v e =>
 ∃(b:Int) (a:Int),v=(.tuple #[(.int .i64 b),(.int .i64 a)]) ∧
 R (.returned (.int .i64 a)) e))
 (R (.returned (.int .i64 1)) w1))
theorem ok118 (x_0:Int) (x_1:ByteArray) (x_2:Option Addr) (x_2N:Nat) (x_2C:Nat) (x_3:ByteArray) (x_4:Option Addr) (x_4N:Nat) (x_4C:Nat) {w:World}{R:Ending→World→Prop} (h:F118 x_0 x_1 x_2 x_2N x_2C x_3 x_4 x_4N x_4C w R):Calls Tryz.prog 118 #[(.agg #[(.int .i64 x_0),(.string x_1),(.slice x_2 x_2N x_2C),(.string x_3),(.slice x_4 x_4N x_4C)])] w R :=
 vc_calls (pl:=⟨25,⟨[]⟩,[],[]⟩) Tryz.func118 (by kernel_rfl) (by kernel_rfl) (by kernel_rfl) (Eq.mp (by kernel_rfl) h)
def F140_j5 (L4:Int→Int→Int→World→Prop) (i:Int) (n2:Int) (deep2:Int) (a:World) (R:Ending→World→Prop):Prop :=
 InR .i64 (i+(1:Int))∧L4 n2 deep2 (i+(1:Int)) a
def F140_l4 (r:Option Addr) (q:Nat) (L4:Int→Int→Int→World→Prop) (n:Int) (deep:Int) (i:Int) (t:World) (R:Ending→World→Prop):Prop :=
 Br (decide (i < ((q:Nat):Int)))
 (∃J5:Int→Int→World→Prop,(∀(n2:Int) (deep2:Int) (p:World),J5 n2 deep2 p→F140_j5 L4 i n2 deep2 p R) ∧
 (IdxA r q i 5 fun s =>
 LdI .i64 (t.cell? s) fun k =>
 LdStr (t.cell? (s.add 1)) fun m =>
 LdSl (t.cell? (s.add 2)) fun g b a =>
 LdStr (t.cell? (s.add 3)) fun j =>
 LdSl (t.cell? (s.add 4)) fun e c d =>
 Calls Tryz.prog 140 #[(.agg #[(.int .i64 k),(.string m),(.slice g b a),(.string j),(.slice e c d)])] t (post R fun v2 p =>
 ∃(f:Int) (h:Int),v2=(.tuple #[(.int .i64 f),(.int .i64 h)]) ∧
 InR .i64 (n+f)∧Br (decide (h > deep))
 (J5 (n+f) h p)
 (J5 (n+f) deep p))))
 (InR .i64 (deep+(1:Int))∧R (.returned (.tuple #[(.int .i64 n),(.int .i64 (deep+(1:Int)))])) t)
def F140 (x_0:Int) (x_1:ByteArray) (x_2:Option Addr) (x_2N:Nat) (x_2C:Nat) (x_3:ByteArray) (x_4:Option Addr) (x_4N:Nat) (x_4C:Nat) (t:World) (R:Ending→World→Prop):Prop :=
 Al t #[(.int .i64 x_0),(.string x_1),(.slice x_2 x_2N x_2C),(.string x_3),(.slice x_4 x_4N x_4C)] 84 fun g1 w1 =>
 LdI .i64 (w1.cell? g1) fun j =>
 LdStr (w1.cell? (g1.add 1)) fun f =>
 LdSl (w1.cell? (g1.add 2)) fun g a d =>
 LdStr (w1.cell? (g1.add 3)) fun e =>
 LdSl (w1.cell? (g1.add 4)) fun h c b =>
 Calls Tryz.prog 177 #[(.agg #[(.int .i64 j),(.string f),(.slice g a d),(.string e),(.slice h c b)])] w1 (post R fun v r =>
 ∃(s:Option Addr) (p:Nat) (k:Nat),v=(.slice s p k) ∧
 ∃(I:Int→Int→Int→World→Prop) (m:Int→Int→Int→World→Nat),I (1:Int) (0:Int) (0:Int) r ∧
 ∀(n:Int) (deep:Int) (i:Int) (q:World),I n deep i q→F140_l4 s p (fun n' deep' i' w2=>I n' deep' i' w2∧m n' deep' i' w2 < m n deep i q) n deep i q R)
theorem ok140 (x_0:Int) (x_1:ByteArray) (x_2:Option Addr) (x_2N:Nat) (x_2C:Nat) (x_3:ByteArray) (x_4:Option Addr) (x_4N:Nat) (x_4C:Nat) {w:World}{R:Ending→World→Prop} (h:F140 x_0 x_1 x_2 x_2N x_2C x_3 x_4 x_4N x_4C w R):Calls Tryz.prog 140 #[(.agg #[(.int .i64 x_0),(.string x_1),(.slice x_2 x_2N x_2C),(.string x_3),(.slice x_4 x_4N x_4C)])] w R :=
 vc_calls (pl:=⟨36,⟨[]⟩,[(5,⟨[(4,(.s (.int .i64))),(5,(.s (.int .i64)))],[(4,6),(8,33)]⟩)],[(4,⟨[(4,(.s (.int .i64))),(5,(.s (.int .i64))),(7,(.s (.int .i64)))],[(4,6),(7,33)]⟩)]⟩) Tryz.func140 (by kernel_rfl) (by kernel_rfl) (by kernel_rfl) (Eq.mp (by kernel_rfl) h)
end Go.Proofs.YtccplipiahdhiaaGreatDoor
namespace Go.Proofs.YtccplipiahdhiaaGreatDoor
open Go.RowKit Go.Vc
set_option linter.unusedVariables false
set_option linter.unusedSimpArgs false
set_option maxRecDepth 100000
theorem textC {f:FuncId}{s:ByteArray}{w:World}{R:Ending→World→Prop} (hc:Calls Tryz.prog f #[.string s] w fun e w'=>e=.returned (.tuple #[.int .i64 (textS s).1,.int .i64 (textS s).2])∧Below w.heap.size w w')
  (h:∀w',Below w.heap.size w w'→R (.returned (.tuple #[.int .i64 (textS s).1,.int .i64 (textS s).2])) w'):Calls Tryz.prog f #[.string s] w R :=
 hc.mono fun e w' ⟨he,hb⟩=>by rw [he];exact h w' hb
theorem charsText_calls (s:ByteArray) {w:World} (hT:Tabs w) {R:Ending→World→Prop} (h:∀w',Below w.heap.size w w'→R (.returned (.tuple #[.int .i64 (textS s).1,.int .i64 (textS s).2])) w'):Calls Tryz.prog 67 #[.string s] w R:=by
 refine ok67 s ?_
 unfold F67
 exact textC (text_calls s w hT) fun w' hb=>⟨_,_,rfl,h w' hb⟩
theorem refText_calls (s:ByteArray) {w:World}{R:Ending→World→Prop} (h:∀w',Below w.heap.size w w'→R (.returned (.tuple #[.int .i64 (textS s).1,.int .i64 (textS s).2])) w'):Calls Tryz.prog 89 #[.string s] w R :=
 textC (textR_calls s w) h
def behindB (p:Option ByteArray) (a:ByteArray):Bool:=match p with
 | none=>true
 | some b=>!(Op.bytesLess a.toList b.toList || (a.toList == b.toList))
def attrsF:Option ByteArray→List At→Int
 | _,[]=>0
 | p,a :: l=>if isName a.nm=true then if behindB p a.nm=true then if (textS a.val).2=0 then attrsF (some a.nm) l else ((textS a.val).2:Nat) else 6 else 6
def attrF (l:List At):Int:=if 32 < l.length then 2 else attrsF none l
def prevN (l:List At) (k:Nat):Option ByteArray:=if k=0 then none else (l[k-1]?).map (·.nm)
theorem prevN_succ {l:List At}{k:Nat} (h:k < l.length):prevN l (k+1)=some l[k].nm:=by
 unfold prevN;rw [if_neg (by omega),Nat.add_sub_cancel,List.getElem?_eq_getElem h];rfl
theorem attrs_calls (l:List At) (v:Sv) {w:World}{R:Ending→World→Prop} (hT:Tabs w) (hl:RR LAt w l v) (h:∀w',Below w.heap.size w w'→R (.returned (.int .i64 (attrF l))) w') :
  Calls Tryz.prog 186 #[.slice v.1 v.2.1 v.2.2] w R:=by
 obtain⟨z0,z1,z2⟩:=hl
 refine ok186 v.1 v.2.1 v.2.2 ?_
 unfold F186
 unfold attrF at h
 refine brd (fun hgt=>?_) (fun hle=>?_)
 ·rw [if_pos (by omega)] at h;exact h w (Below.refl _ _)
 rw [if_neg (by omega)] at h
 refine⟨fun i w'=>∃k:Nat,i=k∧k≤l.length∧Below w.heap.size w w'∧attrsF (prevN l k) (l.drop k)=attrsF none l,fun i _=>l.length-i.toNat,⟨0,rfl,by omega,Below.refl _ _,by simp [prevN]⟩,?_⟩
 rintro i w1 ⟨k,rfl,hk,hb1,hF⟩
 unfold F186_l4
 refine brd (fun hlt=>?_) (fun hge=>?_)
 ·have hk2:k < l.length:=by omega
  rw [List.drop_eq_getElem_cons hk2,attrsF] at hF
  refine (z2.keep hb1).at2 z1 rfl (k:=k) hk2 fun b o c0 c1=>?_
  simp only [Addr.add_mk,c0,c1,lds]
  refine al fun ga w2 hb2 b2 hge2=>?_
  refine st_blk b2 (by simp) fun w3 b3 f3=>st_blk b3 (by simp) fun w4 b4 f4=>?_
  simp only [List.setIfInBounds_toArray,List.set_cons_zero,List.set_cons_succ] at b4
  have D4:Below w1.heap.size w1 w4:=hb2.trans ((Fm.trans f3 f4:Fm (·=ga) w2 w4).toBelow hb2.size fun b hb e=>by have e:b=ga:=e;omega)
  have B4:=btr hb1 hb1.size D4
  refine⟨fun w'=>Below w4.heap.size w4 w'∧isName l[k].nm=true∧behindB (prevN l k) l[k].nm=true,?_,?_⟩
  ·rintro w5 ⟨hb5,hn,hbh⟩
   unfold F186_j8
   have b5:=b4.keep hb5
   have B5:=btr B4 B4.size hb5
   rw [if_pos hn,if_pos hbh] at hF
   simp only [Addr.add_mk,Nat.zero_add,b5.cell,lds]
   refine charsText_calls l[k].val (hT.keep B5) fun w6 hb6=>⟨_,_,rfl,?_⟩
   have B6:=btr B5 B5.size hb6
   refine brn (fun hne=>?_) (fun he=>?_)
   ·rw [if_neg (by omega)] at hF
    rw [hF];exact h w6 B6
   ·rw [if_pos (by omega)] at hF
    exact⟨inR_i64 (by omega) (by omega),⟨k+1,by simp,by omega,B6,by rw [prevN_succ hk2];exact hF⟩,(by first | omega | (dsimp only;omega))⟩
  ·have hd:Below w4.heap.size w4 w4.drew:=(Below.refl _ _).drew
   refine⟨fun w'=>Below w4.heap.size w4 w',hd,?_⟩
   refine⟨_,fun w2 h2=>by rw [(b4.keep h2).cell];rfl,?_⟩
   refine name_calls ⟨_,rfl,hd,?_⟩
   rw [brnot]
   refine br (fun hn=>?_) (fun hn=>?_)
   ·refine brd (fun hpos=>?_) (fun hz=>?_)
    ·refine⟨_,fun w2 h2=>by rw [(b4.keep h2).cell];rfl,inR_i64 (by omega) (by omega),?_⟩
     refine (z2.keep B4).at2H (fun _ h=>h) z1 (show (k:Int)-1=((k-1:Nat):Int) by omega) (by omega) fun b o d0 d1=>⟨_,d0,?_⟩
     have hpv:prevN l k=some l[k-1].nm:=by unfold prevN;rw [if_neg (by omega),List.getElem?_eq_getElem (by omega)];rfl
     refine br (fun hb=>?_) (fun hb=>⟨hd,hn,by rw [hpv];show (!(_ || _))=true;rw [hb];rfl⟩)
     rw [if_pos hn,if_neg (by rw [hpv];show ¬(!(_ || _))=true;rw [hb];decide)] at hF
     rw [hF];exact h _ (btr B4 B4.size hd)
    ·refine⟨hd,hn,?_⟩
     have:k=0:=by omega
     subst this;simp [prevN,behindB]
   ·rw [if_neg (by rw [hn];decide)] at hF
    rw [hF];exact h _ (btr B4 B4.size hd)
 ·have hk2:k=l.length:=by omega
  subst hk2
  rw [List.drop_length,attrsF] at hF
  rw [hF];exact h w1 hb1
theorem attrs2_calls (l:List At) (v:Sv) {w:World}{R:Ending→World→Prop} (hl:RR LAt w l v) (h:∀w',Below w.heap.size w w'→R (.returned (.int .i64 (attrF l))) w') :
  Calls Tryz.prog 158 #[.slice v.1 v.2.1 v.2.2] w R:=by
 obtain⟨z0,z1,z2⟩:=hl
 refine ok158 v.1 v.2.1 v.2.2 ?_
 unfold F158
 unfold attrF at h
 refine brd (fun hgt=>?_) (fun hle=>?_)
 ·rw [if_pos (by omega)] at h;exact h w (Below.refl _ _)
 rw [if_neg (by omega)] at h
 refine⟨fun i w'=>∃k:Nat,i=k∧k≤l.length∧Below w.heap.size w w'∧attrsF (prevN l k) (l.drop k)=attrsF none l,fun i _=>l.length-i.toNat,⟨0,rfl,by omega,Below.refl _ _,by simp [prevN]⟩,?_⟩
 rintro i w1 ⟨k,rfl,hk,hb1,hF⟩
 unfold F158_l4
 refine brd (fun hlt=>?_) (fun hge=>?_)
 ·have hk2:k < l.length:=by omega
  rw [List.drop_eq_getElem_cons hk2,attrsF] at hF
  refine⟨fun w'=>Below w1.heap.size w1 w'∧isName l[k].nm=true∧behindB (prevN l k) l[k].nm=true,?_,?_⟩
  ·rintro w5 ⟨hb5,hn,hbh⟩
   unfold F158_j8
   have B5:=btr hb1 hb1.size hb5
   rw [if_pos hn,if_pos hbh] at hF
   refine (z2.keep B5).at2 z1 rfl (k:=k) hk2 fun b o c0 c1=>?_
   simp only [Addr.add_mk,c0,c1,lds]
   refine refText_calls l[k].val fun w6 hb6=>⟨_,_,rfl,?_⟩
   have B6:=btr B5 B5.size hb6
   refine brn (fun hne=>?_) (fun he=>?_)
   ·rw [if_neg (by omega)] at hF
    rw [hF];exact h w6 B6
   ·rw [if_pos (by omega)] at hF
    exact⟨inR_i64 (by omega) (by omega),⟨k+1,by simp,by omega,B6,by rw [prevN_succ hk2];exact hF⟩,(by first | omega | (dsimp only;omega))⟩
  ·have hd:Below w1.heap.size w1 w1.drew:=(Below.refl _ _).drew
   refine⟨fun w'=>Below w1.heap.size w1 w',hd,?_⟩
   refine (z2.keep hb1).at2H (fun _ h=>h) z1 rfl (k:=k) hk2 fun b o d0 d1=>⟨_,d0,?_⟩
   refine name2_calls ⟨_,rfl,hd,?_⟩
   rw [brnot]
   refine br (fun hn=>?_) (fun hn=>?_)
   ·refine brd (fun hpos=>?_) (fun hz=>?_)
    ·refine (z2.keep hb1).at2H (fun _ h=>h) z1 rfl (k:=k) hk2 fun b o d0 d1=>⟨_,d0,inR_i64 (by omega) (by omega),?_⟩
     refine (z2.keep hb1).at2H (fun _ h=>h) z1 (show (k:Int)-1=((k-1:Nat):Int) by omega) (by omega) fun b o d0 d1=>⟨_,d0,?_⟩
     have hpv:prevN l k=some l[k-1].nm:=by unfold prevN;rw [if_neg (by omega),List.getElem?_eq_getElem (by omega)];rfl
     refine br (fun hb=>?_) (fun hb=>⟨hd,hn,by rw [hpv];show (!(_ || _))=true;rw [hb];rfl⟩)
     rw [if_pos hn,if_neg (by rw [hpv];show ¬(!(_ || _))=true;rw [hb];decide)] at hF
     rw [hF];exact h _ (btr hb1 hb1.size hd)
    ·refine⟨hd,hn,?_⟩
     have:k=0:=by omega
     subst this;simp [prevN,behindB]
   ·rw [if_neg (by rw [hn];decide)] at hF
    rw [hF];exact h _ (btr hb1 hb1.size hd)
 ·have hk2:k=l.length:=by omega
  subst hk2
  rw [List.drop_length,attrsF] at hF
  rw [hF];exact h w1 hb1
def ownF (kind:Int) (nm:ByteArray) (l:List At) (t:ByteArray):Int:=if kind=1 then if isName nm=true then attrF l else 6 else if kind=2 then ((textS t).2:Nat) else 1
theorem own1_calls (kind:Int) (nm:ByteArray) (l:List At) (v:Sv) (t:ByteArray) (u:Sv) {w:World}{R:Ending→World→Prop} (hT:Tabs w) (hl:RR LAt w l v) (h:∀w',Below w.heap.size w w'→R (.returned (.int .i64 (ownF kind nm l t))) w') :
  Calls Tryz.prog 152 #[.agg #[.int .i64 kind,.string nm,.slice v.1 v.2.1 v.2.2,.string t,.slice u.1 u.2.1 u.2.2]] w R:=by
 refine ok152 kind nm v.1 v.2.1 v.2.2 t u.1 u.2.1 u.2.2 ?_
 unfold F152
 unfold ownF at h
 refine al fun g w1 hb1 b1 hge=>?_
 simp only [Addr.add_mk,Nat.zero_add,b1.cell,lds]
 refine bre (fun hk=>?_) (fun hk=>?_)
 ·rw [if_pos hk] at h
  refine name_calls ⟨_,rfl,?_⟩
  rw [brnot]
  refine br (fun hn=>?_) (fun hn=>?_)
  ·rw [if_pos hn] at h
   simp only [Addr.add_mk,Nat.zero_add,b1.cell,lds]
   exact attrs_calls l v (hT.keep hb1) (hl.keep hb1) fun w2 hb2=>⟨_,rfl,h w2 (btr hb1 hb1.size hb2)⟩
  ·rw [if_neg (by rw [hn];decide)] at h
   exact h w1 hb1
 ·rw [if_neg hk] at h
  refine bre (fun hk2=>?_) (fun hk2=>?_)
  ·rw [if_pos hk2] at h
   exact charsText_calls t (hT.keep hb1) fun w2 hb2=>⟨_,_,rfl,h w2 (btr hb1 hb1.size hb2)⟩
  ·rw [if_neg hk2] at h
   exact h w1 hb1
theorem own2_calls (kind:Int) (nm:ByteArray) (l:List At) (v:Sv) (t:ByteArray) (u:Sv) {w:World}{R:Ending→World→Prop} (hl:RR LAt w l v) (h:∀w',Below w.heap.size w w'→R (.returned (.int .i64 (ownF kind nm l t))) w') :
  Calls Tryz.prog 118 #[.agg #[.int .i64 kind,.string nm,.slice v.1 v.2.1 v.2.2,.string t,.slice u.1 u.2.1 u.2.2]] w R:=by
 refine ok118 kind nm v.1 v.2.1 v.2.2 t u.1 u.2.1 u.2.2 ?_
 unfold F118
 unfold ownF at h
 refine al fun g w1 hb1 b1 hge=>?_
 simp only [Addr.add_mk,Nat.zero_add,b1.cell,lds]
 refine bre (fun hk=>?_) (fun hk=>?_)
 ·rw [if_pos hk] at h
  refine name2_calls ⟨_,rfl,?_⟩
  rw [brnot]
  refine br (fun hn=>?_) (fun hn=>?_)
  ·rw [if_pos hn] at h
   simp only [Addr.add_mk,Nat.zero_add,b1.cell,lds]
   exact attrs2_calls l v (hl.keep hb1) fun w2 hb2=>⟨_,rfl,h w2 (btr hb1 hb1.size hb2)⟩
  ·rw [if_neg (by rw [hn];decide)] at h
   exact h w1 hb1
 ·rw [if_neg hk] at h
  refine bre (fun hk2=>?_) (fun hk2=>?_)
  ·rw [if_pos hk2] at h
   exact refText_calls t fun w2 hb2=>⟨_,_,rfl,h w2 (btr hb1 hb1.size hb2)⟩
  ·rw [if_neg hk2] at h
   exact h w1 hb1
set_option maxRecDepth 100000
theorem nodup_sub {α:Type} [DecidableEq α]:∀{a b:List α},a.Nodup→(∀x∈a,x∈b)→a.length≤b.length
 | [],_,_,_=>by simp
 | x :: a,b,h,hs=>by
  have h2:=List.nodup_cons.1 h
  have hx:x∈b:=hs x (by simp)
  have ih:=nodup_sub (b:=b.erase x) h2.2 fun y hy=>by
   have hne:y≠x:=fun e=>h2.1 (e ▸ hy)
   exact (List.mem_erase_of_ne hne).2 (hs y (by simp [hy]))
  rw [List.length_erase_of_mem hx] at ih
  have:0 < b.length:=List.length_pos_of_mem hx
  rw [List.length_cons];omega
def noB:ByteArray:=⟨#[]⟩
theorem rr_nil {α:Type}{L:Lay α}{w:World}:RR L w [] (none,0,0):=⟨by simp,rfl,⟨by simp,by simp [maxLen],fun _=>rfl,fun h=>by simp at h⟩⟩
def newOr (ok:Nat→Bool) (k:Nat) (w:World):World:=wOnly (fun b=>ok b || Nat.ble k b) w
theorem old_but {w w':World}{g:Nat} (hb:Below w.heap.size w w') (hg:w.heap.size≤g):Sub w (but g w'):=fun b c t fr hc=>by
 have hlt:=(Array.getElem?_eq_some_iff.1 hc).1
 have hne:Nat.beq b g=false:=by
  cases h:Nat.beq b g with
  | false=>rfl
  | true=>have:=Nat.eq_of_beq_eq_true h;omega
 exact cells_only (by rw [hne];rfl) (by rw [hb.block b hlt];exact hc)
--PURE
inductive Tr where
 | mk (kind:Int) (nm:ByteArray) (attrs:List At) (text:ByteArray) (kids:List Tr)
def slA (sl:List Sl) (h:Nat):Option Sl:=(atF sl h).bind (sl[·]?)
theorem atF_iff {sl:List Sl}{h k:Nat}:atF sl h=some k↔h % 4294967296=k+1∧∃s,sl[k]?=some s∧s.live=true∧hnd s.gen k=h:=by
 unfold atF
 constructor
 ·intro e
  by_cases h0:h % 4294967296=0
  ·rw [if_pos h0] at e;cases e
  ·rw [if_neg h0] at e
   cases hs:sl[h % 4294967296-1]? with
   | none=>rw [hs] at e;cases e
   | some s =>
    rw [hs] at e
    simp only at e
    by_cases hc:s.live=true∧hnd s.gen (h % 4294967296-1)=h
    ·rw [if_pos hc] at e
     cases e
     exact⟨by omega,s,hs,hc.1,hc.2⟩
    ·rw [if_neg hc] at e;cases e
 ·rintro ⟨h1,s,h2,h3,h4⟩
  rw [if_neg (by omega),h1,Nat.add_sub_cancel,h2]
  simp only
  rw [if_pos ⟨h3,h4⟩]
theorem slA_iff {sl:List Sl}{h:Nat}{s:Sl}:slA sl h=some s↔∃k,h % 4294967296=k+1∧sl[k]?=some s∧s.live=true∧hnd s.gen k=h:=by
 unfold slA
 constructor
 ·intro e
  cases ha:atF sl h with
  | none=>rw [ha] at e;cases e
  | some k =>
   rw [ha] at e
   obtain⟨h1,t,h2,h3,h4⟩:=atF_iff.1 ha
   have:sl[k]?=some s:=e
   rw [h2] at this;cases this
   exact⟨k,h1,h2,h3,h4⟩
 ·rintro ⟨k,h1,h2,h3,h4⟩
  rw [atF_iff.2 ⟨h1,s,h2,h3,h4⟩];exact h2
theorem hnd_mod {g k:Nat} (hk:k+1 < 4294967296):hnd g k % 4294967296=k+1:=by
 unfold hnd;omega
theorem slA_hnd {sl:List Sl}{k:Nat}{s:Sl} (hk:k+1 < 4294967296) (h:sl[k]?=some s) (hl:s.live=true):slA sl (hnd s.gen k)=some s :=
 slA_iff.2 ⟨k,hnd_mod hk,h,hl,rfl⟩
theorem slA_zero (sl:List Sl):slA sl 0=none:=by
 cases h:slA sl 0 with
 | none=>rfl
 | some s=>obtain⟨k,h1,-⟩:=slA_iff.1 h;simp at h1
theorem slA_at {sl:List Sl}{h k:Nat}{s:Sl} (ha:atF sl h=some k) (hs:sl[k]?=some s):slA sl h=some s:=by unfold slA;rw [ha];exact hs
theorem atF_slA {sl:List Sl}{h:Nat}{s:Sl} (hs:slA sl h=some s):∃k,atF sl h=some k∧sl[k]?=some s:=by
 obtain⟨k,h1,h2,h3,h4⟩:=slA_iff.1 hs
 exact⟨k,atF_iff.2 ⟨h1,s,h2,h3,h4⟩,h2⟩
theorem atF_none {sl:List Sl}{h:Nat}:atF sl h=none↔slA sl h=none:=by
 constructor
 ·intro e;unfold slA;rw [e];rfl
 ·intro e
  cases ha:atF sl h with
  | none=>rfl
  | some k =>
   obtain⟨h1,s,h2,h3,h4⟩:=atF_iff.1 ha
   rw [slA_at ha h2] at e;cases e
theorem slA_set {sl:List Sl}{h:Nat}{s s':Sl}{k:Nat} (hk:h % 4294967296=k+1) (hs:slA sl h=some s) (hg:s'.gen=s.gen) (hl:s'.live=true) (x:Nat) :
  slA (sl.set k s') x=if x=h then some s' else slA sl x:=by
 obtain⟨k',h1,h2,h3,h4⟩:=slA_iff.1 hs
 obtain rfl:k'=k:=by omega
 have hlt:k' < sl.length:=(List.getElem?_eq_some_iff.1 h2).1
 by_cases e:x=h
 ·subst e
  rw [if_pos rfl]
  exact slA_iff.2 ⟨k',h1,by simp [hlt],hl,by rw [hg];exact h4⟩
 ·rw [if_neg e]
  cases hx:slA sl x with
  | none =>
   cases hy:slA (sl.set k' s') x with
   | none=>rfl
   | some t =>
    obtain⟨j,j1,j2,j3,j4⟩:=slA_iff.1 hy
    by_cases ej:k'=j
    ·subst ej
     rw [List.getElem?_set_self hlt] at j2
     cases j2
     rw [hg,h4] at j4;exact absurd j4.symm e
    ·rw [List.getElem?_set_ne ej] at j2
     rw [slA_iff.2 ⟨j,j1,j2,j3,j4⟩] at hx;cases hx
  | some t =>
   obtain⟨j,j1,j2,j3,j4⟩:=slA_iff.1 hx
   refine slA_iff.2 ⟨j,j1,?_,j3,j4⟩
   rw [List.getElem?_set_ne,j2]
   rintro rfl
   rw [h2] at j2;cases j2
   exact e (j4.symm.trans h4)
def lstA (A:Nat→Option Sl) (roots:List Nat) (p:Nat):List Nat:=if p=0 then roots else match A p with | some s=>s.kids | none=>[]
inductive Ch (A:Nat→Option Sl):Nat→Nat→Prop where
 | zero:Ch A 0 0
 | succ {h c:Nat}{s:Sl}:h≠0→A h=some s→Ch A s.parent c→Ch A h (c+1)
theorem Ch.fn {A:Nat→Option Sl}{h c d:Nat} (h1:Ch A h c) (h2:Ch A h d):c=d:=by
 induction h1 generalizing d with
 | zero=>cases h2 with
  | zero=>rfl
  | succ h0=>exact absurd rfl h0
 | succ h0 ha _ ih=>cases h2 with
  | zero=>exact absurd rfl h0
  | succ _ hb hc=>rw [ha] at hb;cases hb;rw [ih hc]
theorem Ch.mono {A B:Nat→Option Sl}{h c:Nat} (hk:∀x s,A x=some s→∃t,B x=some t∧t.parent=s.parent) (h1:Ch A h c):Ch B h c:=by
 induction h1 with
 | zero=>exact .zero
 | succ h0 ha _ ih =>
  obtain⟨t,h2,h3⟩:=hk _ _ ha
  exact .succ h0 h2 (by rw [h3];exact ih)
inductive Wi (A:Nat→Option Sl) (h:Nat):Nat→Prop where
 | self:Wi A h h
 | up {x:Nat}{s:Sl}:A x=some s→Wi A h s.parent→Wi A h x
def updA (A:Nat→Option Sl) (h:Nat) (s:Option Sl):Nat→Option Sl:=fun x=>if x=h then s else A x
theorem updA_self (A:Nat→Option Sl) (h:Nat) (s:Option Sl):updA A h s h=s:=by unfold updA;rw [if_pos rfl]
theorem updA_ne {A:Nat→Option Sl}{h x:Nat}{s:Option Sl} (e:x≠h):updA A h s x=A x:=by unfold updA;rw [if_neg e]
def okSl (s:Sl):Prop:=ownF s.kind s.nm s.attrs s.text=0∧(s.kind=1∧s.text=noB∨s.kind=2∧s.nm=noB∧s.attrs=[]∧s.kids=[])
structure WfA (A:Nat→Option Sl) (roots loose:List Nat):Prop where
 zero:A 0=none
 ok:∀h s,A h=some s→okSl s
 par:∀h s,A h=some s→s.parent=0∨∃t,A s.parent=some t∧t.kind=1
 chain:∀h s,A h=some s→∃c,c≤64∧Ch A h c
 kid:∀h s,A h=some s→s.kids.Nodup∧∀x∈s.kids,x∉loose∧∃t,A x=some t∧t.parent=h
 root:roots.Nodup∧∀x∈roots,x∉loose∧∃t,A x=some t∧t.parent=0
 mem:∀h s,A h=some s→h∉loose→h∈lstA A roots s.parent
 lo:∀h∈loose,∃s,A h=some s
section
variable {A:Nat→Option Sl}{roots loose:List Nat}
theorem WfA.lst (h:WfA A roots loose) (p:Nat):(lstA A roots p).Nodup∧∀x∈lstA A roots p,x∉loose∧∃t,A x=some t∧t.parent=p:=by
 unfold lstA
 by_cases h0:p=0
 ·subst h0;rw [if_pos rfl];exact h.root
 ·rw [if_neg h0]
  cases ha:A p with
  | none=>simp
  | some s=>exact h.kid p s ha
theorem lstA_some {p:Nat}{s:Sl} (h0:p≠0) (h:A p=some s):lstA A roots p=s.kids:=by unfold lstA;rw [if_neg h0,h]
theorem lstA_zero:lstA A roots 0=roots:=by unfold lstA;rw [if_pos rfl]
theorem WfA.ne0 (h:WfA A roots loose) {x:Nat}{s:Sl} (hx:A x=some s):x≠0:=fun e=>by subst e;rw [h.zero] at hx;cases hx
theorem WfA.fresh (h:WfA A roots loose) {n p c:Nat}{s:Sl} (h0:n≠0) (hn:A n=none) (hs:okSl s) (hk:s.kids=[]) (hp:s.parent=p) (hpk:p=0∨∃t,A p=some t∧t.kind=1) (hc:Ch A p c) (hc2:c+1≤64) :
  WfA (updA A n (some s)) roots (n :: loose):=by
 have hext:∀x t,A x=some t→updA A n (some s) x=some t:=fun x t hx=>by
  rw [updA_ne];exact hx
  rintro rfl;rw [hn] at hx;cases hx
 have hext2:∀x t,A x=some t→∃u,updA A n (some s) x=some u∧u.parent=t.parent:=fun x t hx=>⟨t,hext x t hx,rfl⟩
 have hold:∀x t,updA A n (some s) x=some t→(x=n∧t=s)∨A x=some t:=fun x t hx=>by
  by_cases e:x=n
  ·subst e;rw [updA_self] at hx;cases hx;exact .inl ⟨rfl,rfl⟩
  ·rw [updA_ne e] at hx;exact .inr hx
 have hpar:∀q,(q=0∨∃t,A q=some t∧t.kind=1)→(q=0∨∃t,updA A n (some s) q=some t∧t.kind=1):=fun q hq=>by
  rcases hq with hq | ⟨t,h1,h2⟩
  ·exact .inl hq
  ·exact .inr ⟨t,hext _ _ h1,h2⟩
 refine⟨by rw [updA_ne (Ne.symm h0)];exact h.zero,fun x t hx=>?_,fun x t hx=>?_,fun x t hx=>?_,fun x t hx=>?_,⟨h.root.1,fun x hx=>?_⟩,fun x t hx hl=>?_,fun x hx=>?_⟩
 rotate_right
 ·rcases List.mem_cons.1 hx with rfl | hx
  ·exact⟨s,updA_self _ _ _⟩
  ·obtain⟨t,ht⟩:=h.lo x hx
   exact⟨t,hext _ _ ht⟩
 ·rcases hold x t hx with ⟨rfl,rfl⟩ | hx
  ·exact hs
  ·exact h.ok x t hx
 ·rcases hold x t hx with ⟨rfl,rfl⟩ | hx
  ·rw [hp];exact hpar _ hpk
  ·exact hpar _ (h.par x t hx)
 ·rcases hold x t hx with ⟨rfl,rfl⟩ | hx
  ·exact⟨c+1,hc2,.succ h0 (updA_self _ _ _) (by rw [hp];exact hc.mono hext2)⟩
  ·obtain⟨d,h1,h2⟩:=h.chain x t hx
   exact⟨d,h1,h2.mono hext2⟩
 ·rcases hold x t hx with ⟨rfl,rfl⟩ | hx
  ·rw [hk];simp
  ·obtain⟨h1,h2⟩:=h.kid x t hx
   refine⟨h1,fun y hy=>?_⟩
   obtain⟨h3,u,h4,h5⟩:=h2 y hy
   refine⟨?_,u,hext _ _ h4,h5⟩
   simp only [List.mem_cons,not_or]
   exact⟨fun e=>(by subst e;rw [hn] at h4;cases h4),h3⟩
 ·obtain⟨h3,u,h4,h5⟩:=h.root.2 x hx
  refine⟨?_,u,hext _ _ h4,h5⟩
  simp only [List.mem_cons,not_or]
  exact⟨fun e=>(by subst e;rw [hn] at h4;cases h4),h3⟩
 ·simp only [List.mem_cons,not_or] at hl
  rcases hold x t hx with ⟨rfl,rfl⟩ | hx
  ·exact absurd rfl hl.1
  ·have h1:=h.mem x t hx hl.2
   rcases h.par x t hx with h2 | ⟨u,h2,-⟩
   ·rw [h2,lstA_zero] at h1 ⊢;exact h1
   ·rw [lstA_some (h.ne0 h2) h2] at h1
    rw [lstA_some (h.ne0 h2) (hext _ _ h2)];exact h1
def setA (A:Nat→Option Sl) (p:Nat) (l:List Nat):Nat→Option Sl:=fun x=>if x=p∧p≠0 then (A x).map fun s=>{ s with kids:=l } else A x
def setR (roots:List Nat) (p:Nat) (l:List Nat):List Nat:=if p=0 then l else roots
theorem setA_some {p x:Nat}{l:List Nat}{t:Sl} (h:setA A p l x=some t):∃s,A x=some s∧t=(if x=p∧p≠0 then { s with kids:=l } else s):=by
 unfold setA at h
 by_cases e:x=p∧p≠0
 ·rw [if_pos e] at h
  obtain⟨s,h1,h2⟩:=Option.map_eq_some_iff.1 h
  exact⟨s,h1,by rw [if_pos e];exact h2.symm⟩
 ·rw [if_neg e] at h
  exact⟨t,h,by rw [if_neg e]⟩
theorem setA_of {p x:Nat}{l:List Nat}{s:Sl} (h:A x=some s):setA A p l x=some (if x=p∧p≠0 then { s with kids:=l } else s):=by
 unfold setA
 by_cases e:x=p∧p≠0
 ·rw [if_pos e,if_pos e,h];rfl
 ·rw [if_neg e,if_neg e,h]
theorem setA_of' {p x:Nat}{l:List Nat}{s:Sl} (h:A x=some s):∃t,setA A p l x=some t∧t.parent=s.parent∧t.kind=s.kind:=by
 refine⟨_,setA_of h,?_,?_⟩ <;> split <;> rfl
theorem lst_setA {p q:Nat}{l:List Nat} (hq:q=0∨∃s,A q=some s) (h0:A 0=none):lstA (setA A p l) (setR roots p l) q=if q=p then l else lstA A roots q:=by
 unfold lstA setR
 by_cases e:q=0
 ·subst e
  rw [if_pos rfl]
  by_cases e2:p=0
  ·subst e2;simp
  ·rw [if_neg e2,if_neg (Ne.symm e2),if_pos rfl]
 ·rw [if_neg e,if_neg e]
  rcases hq with hq | ⟨s,hs⟩
  ·exact absurd hq e
  ·rw [setA_of hs,hs]
   simp only
   by_cases e2:q=p
   ·subst e2;rw [if_pos ⟨rfl,e⟩,if_pos rfl]
   ·rw [if_neg (fun h=>e2 h.1),if_neg e2]
theorem WfA.setL (h:WfA A roots loose) {p:Nat}{l:List Nat}{loose':List Nat} (hp:p=0∨∃t,A p=some t∧t.kind=1) (hn:l.Nodup) (hl:∀x∈l,x∉loose'∧∃t,A x=some t∧t.parent=p)
  (hm:∀x s,A x=some s→s.parent=p→x∉loose'→x∈l) (ho:∀x s,A x=some s→s.parent≠p→(x∈loose'↔x∈loose)) (hlo:∀x∈loose',∃s,A x=some s):WfA (setA A p l) (setR roots p l) loose':=by
 have hpe:∀q,(q=0∨∃t,A q=some t∧t.kind=1)→(q=0∨∃t,setA A p l q=some t∧t.kind=1):=fun q hq=>by
  rcases hq with hq | ⟨t,h1,h2⟩
  ·exact .inl hq
  ·obtain⟨u,h3,h4,h5⟩:=setA_of' (p:=p) (l:=l) h1
   exact .inr ⟨u,h3,by rw [h5,h2]⟩
 have hch:∀x s,A x=some s→∃t,setA A p l x=some t∧t.parent=s.parent:=fun x s hx=>by
  obtain⟨u,h3,h4,h5⟩:=setA_of' (p:=p) (l:=l) hx
  exact⟨u,h3,h4⟩
 refine⟨by unfold setA;rw [if_neg (by rintro ⟨e,h2⟩;exact h2 e.symm)];exact h.zero,fun x t hx=>?_,fun x t hx=>?_,fun x t hx=>?_,fun x t hx=>?_,?_,fun x t hx hlo=>?_,fun x hx=>?_⟩
 rotate_right
 ·obtain⟨s,hs⟩:=hlo x hx
  exact⟨_,setA_of hs⟩
 ·obtain⟨s,h1,rfl⟩:=setA_some hx
  have h2:=h.ok x s h1
  split
  ·rename_i e
   rcases hp with hp | ⟨t,h3,h4⟩
   ·exact absurd hp e.2
   ·rw [←e.1,h1] at h3;cases h3
    obtain⟨h5,h6⟩:=h2
    refine⟨h5,.inl ⟨h4,?_⟩⟩
    rcases h6 with h6 | h6
    ·exact h6.2
    ·rw [h4] at h6;exact absurd h6.1 (by decide)
  ·exact h2
 ·obtain⟨s,h1,rfl⟩:=setA_some hx
  have:(if x=p∧p≠0 then { s with kids:=l } else s).parent=s.parent:=by split <;> rfl
  rw [this]
  exact hpe _ (h.par x s h1)
 ·obtain⟨s,h1,rfl⟩:=setA_some hx
  obtain⟨c,h2,h3⟩:=h.chain x s h1
  exact⟨c,h2,h3.mono hch⟩
 ·obtain⟨s,h1,rfl⟩:=setA_some hx
  split
  ·rename_i e
   refine⟨hn,fun y hy=>?_⟩
   obtain⟨h3,u,h4,h5⟩:=hl y hy
   obtain⟨v,h6,h7⟩:=hch y u h4
   exact⟨h3,v,h6,by rw [h7,h5,e.1]⟩
  ·rename_i e
   obtain⟨h2,h3⟩:=h.kid x s h1
   refine⟨h2,fun y hy=>?_⟩
   obtain⟨h4,u,h5,h6⟩:=h3 y hy
   obtain⟨v,h7,h8⟩:=hch y u h5
   refine⟨fun hy2=>h4 ((ho y u h5 ?_).1 hy2),v,h7,by rw [h8,h6]⟩
   rw [h6]
   rintro rfl
   exact e ⟨rfl,h.ne0 h1⟩
 ·unfold setR
  split
  ·rename_i e
   refine⟨hn,fun y hy=>?_⟩
   obtain⟨h3,u,h4,h5⟩:=hl y hy
   obtain⟨v,h6,h7⟩:=hch y u h4
   exact⟨h3,v,h6,by rw [h7,h5,e]⟩
  ·rename_i e
   refine⟨h.root.1,fun y hy=>?_⟩
   obtain⟨h4,u,h5,h6⟩:=h.root.2 y hy
   obtain⟨v,h7,h8⟩:=hch y u h5
   exact⟨fun hy2=>h4 ((ho y u h5 (by rw [h6];exact Ne.symm e)).1 hy2),v,h7,by rw [h8,h6]⟩
 ·obtain⟨s,h1,rfl⟩:=setA_some hx
  have hpe2:(if x=p∧p≠0 then { s with kids:=l } else s).parent=s.parent:=by split <;> rfl
  rw [hpe2]
  rw [lst_setA ((h.par x s h1).imp id fun⟨t,h2,_⟩=>⟨t,h2⟩) h.zero]
  by_cases e:s.parent=p
  ·rw [if_pos e];exact hm x s h1 e hlo
  ·rw [if_neg e];exact h.mem x s h1 fun h2=>hlo ((ho x s h1 e).2 h2)
theorem WfA.node (h:WfA A roots loose) {n:Nat}{s s':Sl} (hn:A n=some s) (hs:okSl s') (h1:s'.parent=s.parent) (h2:s'.kids=s.kids) (h3:s'.kind=s.kind):WfA (updA A n (some s')) roots loose:=by
 have hold:∀x t,updA A n (some s') x=some t→∃u,A x=some u∧t.parent=u.parent∧t.kids=u.kids∧t.kind=u.kind∧okSl t:=fun x t hx=>by
  by_cases e:x=n
  ·subst e;rw [updA_self] at hx;cases hx;exact⟨s,hn,h1,h2,h3,hs⟩
  ·rw [updA_ne e] at hx;exact⟨t,hx,rfl,rfl,rfl,h.ok x t hx⟩
 have hnew:∀x u,A x=some u→∃t,updA A n (some s') x=some t∧t.parent=u.parent∧t.kids=u.kids∧t.kind=u.kind:=fun x u hx=>by
  by_cases e:x=n
  ·subst e;rw [hn] at hx;cases hx;exact⟨s',updA_self _ _ _,h1,h2,h3⟩
  ·exact⟨u,by rw [updA_ne e];exact hx,rfl,rfl,rfl⟩
 refine⟨?_,fun x t hx=>?_,fun x t hx=>?_,fun x t hx=>?_,fun x t hx=>?_,⟨h.root.1,fun x hx=>?_⟩,fun x t hx hlo=>?_,fun x hx=>?_⟩
 rotate_right
 ·obtain⟨t,ht⟩:=h.lo x hx
  obtain⟨u,hu,_⟩:=hnew x t ht
  exact⟨u,hu⟩
 ·rw [updA_ne (Ne.symm (h.ne0 hn))];exact h.zero
 ·obtain⟨u,k1,k2,k3,k4,k5⟩:=hold x t hx;exact k5
 ·obtain⟨u,k1,k2,k3,k4,k5⟩:=hold x t hx
  rw [k2]
  rcases h.par x u k1 with k6 | ⟨v,k6,k7⟩
  ·exact .inl k6
  ·obtain⟨y,y1,y2,y3,y4⟩:=hnew _ _ k6
   exact .inr ⟨y,y1,by rw [y4,k7]⟩
 ·obtain⟨u,k1,k2,k3,k4,k5⟩:=hold x t hx
  obtain⟨c,c1,c2⟩:=h.chain x u k1
  exact⟨c,c1,c2.mono fun y v hy=>by obtain⟨z,z1,z2,_⟩:=hnew y v hy;exact⟨z,z1,z2⟩⟩
 ·obtain⟨u,k1,k2,k3,k4,k5⟩:=hold x t hx
  obtain⟨m1,m2⟩:=h.kid x u k1
  rw [k3]
  refine⟨m1,fun y hy=>?_⟩
  obtain⟨q1,v,q2,q3⟩:=m2 y hy
  obtain⟨z,z1,z2,_⟩:=hnew y v q2
  exact⟨q1,z,z1,by rw [z2,q3]⟩
 ·obtain⟨q1,v,q2,q3⟩:=h.root.2 x hx
  obtain⟨z,z1,z2,_⟩:=hnew x v q2
  exact⟨q1,z,z1,by rw [z2,q3]⟩
 ·obtain⟨u,k1,k2,k3,k4,k5⟩:=hold x t hx
  have k6:=h.mem x u k1 hlo
  rw [k2]
  rcases h.par x u k1 with k7 | ⟨v,k7,-⟩
  ·rw [k7,lstA_zero] at k6 ⊢;exact k6
  ·rw [lstA_some (h.ne0 k7) k7] at k6
   obtain⟨y,y1,y2,y3,y4⟩:=hnew _ _ k7
   rw [lstA_some (h.ne0 k7) y1,y3];exact k6
end
--PURE
theorem Tr.ind {M:Tr→Prop} (h:∀kind nm attrs text kids,(∀k∈kids,M k)→M (.mk kind nm attrs text kids)):∀t,M t:=by
 intro t
 refine Tr.rec (motive_1:=M) (motive_2:=fun ks=>∀k∈ks,M k) (fun kind nm attrs text ks ih=>h kind nm attrs text ks ih) (fun k hk=>by simp at hk) (fun a l h1 h2 k hk=>?_) t
 rcases List.mem_cons.1 hk with rfl | hk
 ·exact h1
 ·exact h2 k hk
mutual
def szT:Tr→Nat
 | .mk kind _ _ _ kids=>if kind=2 then 1 else 1+szL kids
def szL:List Tr→Nat
 | []=>0
 | x :: l=>szT x+szL l
end
mutual
def dpT:Tr→Nat
 | .mk kind _ _ _ kids=>if kind=2 then 1 else 1+dpL kids
def dpL:List Tr→Nat
 | []=>0
 | x :: l=>max (dpT x) (dpL l)
end
mutual
def okT:Tr→Prop
 | .mk kind nm attrs text kids=>ownF kind nm attrs text=0∧(kind=1∨kind=2)∧(kind=1→okL kids)
def okL:List Tr→Prop
 | []=>True
 | x :: l=>okT x∧okL l
end
theorem szT_pos:∀x:Tr,1≤szT x
 | .mk kind _ _ _ kids=>by unfold szT;split <;> omega
theorem dpT_pos:∀x:Tr,1≤dpT x
 | .mk kind _ _ _ kids=>by unfold dpT;split <;> omega
theorem szL_snoc (l:List Tr) (x:Tr):szL (l++[x])=szL l+szT x:=by
 induction l with
 | nil=>simp [szL]
 | cons y l ih=>simp only [List.cons_append,szL,ih];omega
mutual
def lookF:Tr→Nat→Nat→Nat × Int
 | .mk kind nm attrs text kids,deep,n =>
  if 64 < deep∨4096≤n then (n,2) else if ownF kind nm attrs text≠0 then (n,ownF kind nm attrs text) else if kind=2 then (n+1,0) else looksF kids (deep+1) (n+1)
def looksF:List Tr→Nat→Nat→Nat × Int
 | [],_,n=>(n,0)
 | x :: l,deep,n=>if (lookF x deep n).2≠0 then lookF x deep n else looksF l deep (lookF x deep n).1
end
def freeI (sl:List Sl):Nat:=sl.findIdx fun s=>!s.live && decide (s.gen < 4294967295)
def deadS (g:Nat):Sl:=⟨g,false,0,noB,[],noB,0,[]⟩
def roomF (sl:List Sl):List Sl:=if freeI sl < sl.length then sl else sl++[deadS 0]
def genI (sl:List Sl):Nat:=match (roomF sl)[freeI sl]? with | some s=>s.gen+1 | none=>0
def freshH (sl:List Sl):Nat:=hnd (genI sl) (freeI sl)
mutual
def makeF:Tr→Nat→List Sl→List Sl
 | .mk kind nm attrs text kids,p,sl =>
  if kind=2 then (roomF sl).set (freeI sl) ⟨genI sl,true,kind,noB,[],text,p,[]⟩
  else makesF kids (freshH sl) (freeI sl) ((roomF sl).set (freeI sl) ⟨genI sl,true,kind,nm,attrs,noB,p,[]⟩)
def makesF:List Tr→Nat→Nat→List Sl→List Sl
 | [],_,_,sl=>sl
 | x :: l,h,i,sl=>makesF l h i ((makeF x h sl).modify i fun s=>{ s with kids:=s.kids++[freshH sl] })
end
structure WfS (sl:List Sl):Prop where
 few:sl.length≤4096
 gen:∀s∈sl,s.gen < 4294967296
 dead:∀s∈sl,s.live=false→s=deadS s.gen
 live:∀s∈sl,s.live=true→1≤s.gen
def tk (sl:List Sl):Nat:=(sl.filter fun s=>s.live || decide (4294967295≤s.gen)).length
section
variable {sl:List Sl}
theorem freeI_lt (h:freeI sl < sl.length):∃s,sl[freeI sl]?=some s∧s.live=false∧s.gen < 4294967295:=by
 have h1:=List.findIdx_getElem (w:=h)
 refine⟨sl[freeI sl],List.getElem?_eq_getElem h,?_⟩
 unfold freeI
 simpa using h1
theorem freeI_le:freeI sl≤sl.length:=List.findIdx_le_length
theorem tk_le:tk sl≤sl.length:=List.length_filter_le _ _
theorem tk_full (h:¬freeI sl < sl.length):tk sl=sl.length:=by
 unfold tk
 rw [List.filter_eq_self.2]
 intro s hs
 have h1:sl.findIdx (fun s=>!s.live && decide (s.gen < 4294967295))=sl.length:=by
  have:=freeI_le (sl:=sl);unfold freeI at this h;omega
 have h2:=List.findIdx_eq_length.1 h1 s hs
 cases hl:s.live
 ·simp [hl] at h2 ⊢;omega
 ·simp
theorem room_get (hw:WfS sl):∃s,(roomF sl)[freeI sl]?=some s∧s=deadS s.gen∧s.gen < 4294967295∧s.live=false:=by
 unfold roomF
 by_cases h:freeI sl < sl.length
 ·rw [if_pos h]
  obtain⟨s,h1,h2,h3⟩:=freeI_lt h
  exact⟨s,h1,hw.dead s (List.mem_of_getElem? h1) h2,h3,h2⟩
 ·rw [if_neg h]
  have h2:freeI sl=sl.length:=by have:=freeI_le (sl:=sl);omega
  exact⟨deadS 0,by rw [h2];simp,rfl,by decide,rfl⟩
theorem genI_eq {s:Sl} (h:(roomF sl)[freeI sl]?=some s):genI sl=s.gen+1:=by unfold genI;rw [h]
theorem room_old {k:Nat}{s:Sl} (h:sl[k]?=some s):(roomF sl)[k]?=some s:=by
 unfold roomF
 split
 ·exact h
 ·rw [List.getElem?_append_left (List.getElem?_eq_some_iff.1 h).1];exact h
theorem room_len:sl.length≤(roomF sl).length∧(roomF sl).length≤tk sl+1∨(roomF sl).length=sl.length:=by
 unfold roomF
 by_cases h:freeI sl < sl.length
 ·rw [if_pos h];exact .inr rfl
 ·rw [if_neg h]
  have:=tk_full h
  exact .inl (by simp;omega)
theorem room_wf (hw:WfS sl) (ht:tk sl < 4096):WfS (roomF sl):=by
 unfold roomF
 by_cases h:freeI sl < sl.length
 ·rw [if_pos h];exact hw
 ·rw [if_neg h]
  have h2:=tk_full h
  refine⟨by simp;omega,fun s hs=>?_,fun s hs hl=>?_,fun s hs hl=>?_⟩ <;> rcases List.mem_append.1 hs with hs | hs
  ·exact hw.gen s hs
  ·rw [List.mem_singleton] at hs;subst hs;decide
  ·exact hw.dead s hs hl
  ·rw [List.mem_singleton] at hs;subst hs;rfl
  ·exact hw.live s hs hl
  ·rw [List.mem_singleton] at hs;subst hs;cases hl
theorem slA_room (hw:WfS sl) (x:Nat):slA (roomF sl) x=slA sl x:=by
 unfold roomF
 by_cases h:freeI sl < sl.length
 ·rw [if_pos h]
 ·rw [if_neg h]
  cases hx:slA sl x with
  | some s =>
   obtain⟨k,h1,h2,h3,h4⟩:=slA_iff.1 hx
   exact slA_iff.2 ⟨k,h1,by rw [List.getElem?_append_left (List.getElem?_eq_some_iff.1 h2).1];exact h2,h3,h4⟩
  | none =>
   cases hy:slA (sl++[deadS 0]) x with
   | none=>rfl
   | some s =>
    obtain⟨k,h1,h2,h3,h4⟩:=slA_iff.1 hy
    rcases Nat.lt_or_ge k sl.length with hk | hk
    ·rw [List.getElem?_append_left hk] at h2
     rw [slA_iff.2 ⟨k,h1,h2,h3,h4⟩] at hx;cases hx
    ·rw [List.getElem?_append_right hk] at h2
     have:s∈[deadS 0]:=List.mem_of_getElem? h2
     rw [List.mem_singleton] at this;subst this;cases h3
theorem slA_born {k:Nat}{s s':Sl} (hk:k+1 < 4294967296) (hs:sl[k]?=some s) (hd:s.live=false) (hl:s'.live=true) (x:Nat) :
  slA (sl.set k s') x=updA (slA sl) (hnd s'.gen k) (some s') x:=by
 have hlt:k < sl.length:=(List.getElem?_eq_some_iff.1 hs).1
 by_cases e:x=hnd s'.gen k
 ·subst e
  rw [updA_self]
  exact slA_hnd hk (by simp [hlt]) hl
 ·rw [updA_ne e]
  cases hx:slA sl x with
  | some t =>
   obtain⟨j,j1,j2,j3,j4⟩:=slA_iff.1 hx
   refine slA_iff.2 ⟨j,j1,?_,j3,j4⟩
   rw [List.getElem?_set_ne,j2]
   rintro rfl
   rw [hs] at j2;cases j2;rw [hd] at j3;cases j3
  | none =>
   cases hy:slA (sl.set k s') x with
   | none=>rfl
   | some t =>
    obtain⟨j,j1,j2,j3,j4⟩:=slA_iff.1 hy
    by_cases ej:k=j
    ·subst ej
     rw [List.getElem?_set_self hlt] at j2
     cases j2
     exact absurd j4.symm e
    ·rw [List.getElem?_set_ne ej] at j2
     rw [slA_iff.2 ⟨j,j1,j2,j3,j4⟩] at hx;cases hx
theorem slA_dead {k h:Nat}{s:Sl} (hk:k+1 < 4294967296) (hs:sl[k]?=some s) (hd:s.live=false) (hm:h % 4294967296=k+1):slA sl h=none:=by
 cases hx:slA sl h with
 | none=>rfl
 | some t =>
  obtain⟨j,j1,j2,j3,j4⟩:=slA_iff.1 hx
  obtain rfl:j=k:=by omega
  rw [hs] at j2;cases j2;rw [hd] at j3;cases j3
theorem WfS.set (hw:WfS sl) {k:Nat}{s':Sl} (h1:s'.gen < 4294967296) (h2:s'.live=false→s'=deadS s'.gen) (h3:s'.live=true→1≤s'.gen):WfS (sl.set k s'):=by
 refine⟨by simpa using hw.few,fun s hs=>?_,fun s hs hl=>?_,fun s hs hl=>?_⟩ <;> rcases List.mem_or_eq_of_mem_set hs with hs | hs
 ·exact hw.gen s hs
 ·subst hs;exact h1
 ·exact hw.dead s hs hl
 ·subst hs;exact h2 hl
 ·exact hw.live s hs hl
 ·subst hs;exact h3 hl
theorem filter_set_len {α:Type} (q:α→Bool):∀(l:List α) (k:Nat) (a b:α),l[k]?=some a→((l.set k b).filter q).length+(if q a then 1 else 0)=(l.filter q).length+(if q b then 1 else 0)
 | [],k,a,b,h=>by simp at h
 | x :: l,0,a,b,h=>by
  simp at h;subst h
  simp only [List.set_cons_zero,List.filter_cons]
  cases q x <;> cases q b <;> simp
 | x :: l,k+1,a,b,h=>by
  have ih:=filter_set_len q l k a b (by simpa using h)
  simp only [List.set_cons_succ,List.filter_cons]
  cases q x
  ·simpa using ih
  ·simp only [if_true,List.length_cons];omega
theorem tk_set {k:Nat}{a b:Sl} (h:sl[k]?=some a):tk (sl.set k b)+(if a.live || decide (4294967295≤a.gen) then 1 else 0)=tk sl+(if b.live || decide (4294967295≤b.gen) then 1 else 0) :=
 filter_set_len (fun s:Sl=>s.live || decide (4294967295≤s.gen)) sl k a b h
theorem tk_room:tk (roomF sl)=tk sl:=by
 unfold roomF tk
 split
 ·rfl
 ·rw [List.filter_append];simp [deadS]
theorem modify_set {α:Type} (f:α→α):∀(l:List α) (k:Nat) (a:α),l[k]?=some a→l.modify k f=l.set k (f a)
 | [],k,a,h=>by simp at h
 | x :: l,0,a,h=>by simp at h;subst h;rfl
 | x :: l,k+1,a,h=>by
  have ih:=modify_set f l k a (by simpa using h)
  simp [ih]
end
structure Made (roots loose:List Nat) (sl sl':List Sl) (p h n:Nat):Prop where
 wfs:WfS sl'
 wf:WfA (slA sl') roots (h :: loose)
 new:slA sl h=none
 ext:∀y s,slA sl y=some s→slA sl' y=some s
 top:∃s,slA sl' h=some s∧s.parent=p
 tk:tk sl'=tk sl+n
 len:sl.length≤sl'.length
section
variable {sl:List Sl}{roots loose:List Nat}{p c:Nat}
theorem one_wf {s:Sl} (hs:okSl s) (hk:s.kids=[]) (hsp:s.parent=p) (hsl:s.live=true) (hsg:s.gen=genI sl) (hw:WfS sl) (hA:WfA (slA sl) roots loose) (hp:p=0∨∃t,slA sl p=some t∧t.kind=1) (hc:Ch (slA sl) p c) (hc2:c+1≤64) (ht:tk sl+1≤4096) :
  Made roots loose sl ((roomF sl).set (freeI sl) s) p (freshH sl) 1∧slA ((roomF sl).set (freeI sl) s) (freshH sl)=some s:=by
 obtain⟨d,h1,h2,h3,h4⟩:=room_get hw
 have hg:=genI_eq h1
 have hR:=room_wf hw (by omega)
 have hi:freeI sl < (roomF sl).length:=(List.getElem?_eq_some_iff.1 h1).1
 have hfew:=hR.few
 have e:∀x,slA ((roomF sl).set (freeI sl) s) x=updA (slA sl) (freshH sl) (some s) x:=fun x=>by
  have e1:=slA_born (sl:=roomF sl) (k:=freeI sl) (s:=d) (s':=s) (by omega) h1 h4 hsl x
  rw [e1]
  have e2:(slA (roomF sl))=slA sl:=funext (slA_room hw)
  rw [e2,hsg];rfl
 have e':=funext e
 have hnew:slA sl (freshH sl)=none:=by
  rw [←slA_room hw]
  exact slA_dead (k:=freeI sl) (s:=d) (by omega) h1 h4 (by unfold freshH;exact hnd_mod (by omega))
 have h0:freshH sl≠0:=by unfold freshH hnd;omega
 refine⟨⟨hR.set (by rw [hsg];omega) (by rw [hsl];simp) (fun _=>by rw [hsg];omega),?_,hnew,fun y t hy=>?_,⟨s,by rw [e,updA_self],hsp⟩,?_,?_⟩,by rw [e,updA_self]⟩
 ·rw [e'];exact hA.fresh h0 hnew hs hk hsp hp hc hc2
 ·rw [e,updA_ne];exact hy
  rintro rfl;rw [hnew] at hy;cases hy
 ·have:=tk_set (b:=s) h1
  rw [tk_room] at this
  rw [h4,hsl] at this
  simp only [Bool.true_or,if_true,Bool.false_or] at this
  rw [if_neg (by simp;omega)] at this
  omega
 ·rw [List.length_set]
  rcases room_len (sl:=sl) with h | h <;> omega
theorem WfA.hang1 {A:Nat→Option Sl}{h hk:Nat}{s:Sl} (hA:WfA A roots (hk :: loose)) (hh:A h=some s) (hs1:s.kind=1) (hkp:∃t,A hk=some t∧t.parent=h) (hnl:hk∉loose) :
  WfA (setA A h (s.kids++[hk])) roots loose:=by
 have h0:=hA.ne0 hh
 have hr:setR roots h (s.kids++[hk])=roots:=by unfold setR;rw [if_neg h0]
 have:=hA.setL (p:=h) (l:=s.kids++[hk]) (loose':=loose) (.inr ⟨s,hh,hs1⟩) ?_ (fun x hx=>?_) (fun x t hx hp hl=>?_) (fun x t hx hp=>?_) (fun x hx=>hA.lo x (List.mem_cons_of_mem _ hx))
 ·rw [hr] at this;exact this
 ·obtain⟨k1,k2⟩:=hA.kid h s hh
  rw [List.nodup_append]
  refine⟨k1,by simp,fun a ha b hb e=>?_⟩
  rw [List.mem_singleton] at hb;subst hb;subst e
  exact (k2 a ha).1 (by simp)
 ·rcases List.mem_append.1 hx with hx | hx
  ·obtain⟨k1,k2⟩:=(hA.kid h s hh).2 x hx
   exact⟨fun e=>k1 (List.mem_cons_of_mem _ e),k2⟩
  ·rw [List.mem_singleton] at hx;subst hx
   exact⟨hnl,hkp⟩
 ·by_cases e:x=hk
  ·subst e;simp
  ·have:=hA.mem x t hx (by simp [e,hl])
   rw [hp,lstA_some h0 hh] at this
   exact List.mem_append_left _ this
 ·constructor
  ·intro k;exact List.mem_cons_of_mem _ k
  ·intro k
   rcases List.mem_cons.1 k with rfl | k
   ·obtain⟨u,u1,u2⟩:=hkp
    rw [hx] at u1;cases u1;exact absurd u2 hp
   ·exact k
theorem makes_wf:∀(l:List Tr),(∀x∈l,∀{sl:List Sl}{loose:List Nat}{p c:Nat},okT x→WfS sl→WfA (slA sl) roots loose→(p=0∨∃t,slA sl p=some t∧t.kind=1)→Ch (slA sl) p c→c+dpT x≤64→tk sl+szT x≤4096→Made roots loose sl (makeF x p sl) p (freshH sl) (szT x)) →
  ∀{sl:List Sl}{loose:List Nat}{h c i:Nat}{s:Sl},okL l→WfS sl→WfA (slA sl) roots loose→h % 4294967296=i+1→slA sl h=some s→s.kind=1→Ch (slA sl) h c→c+dpL l≤64→tk sl+szL l≤4096 →
  WfS (makesF l h i sl)∧WfA (slA (makesF l h i sl)) roots loose∧(∀y t,y≠h→slA sl y=some t→slA (makesF l h i sl) y=some t)∧(∃ks,slA (makesF l h i sl) h=some { s with kids:=s.kids++ks })∧tk (makesF l h i sl)=tk sl+szL l∧sl.length≤(makesF l h i sl).length
 | [],_,sl,loose,h,c,i,s,ho,hw,hA,hi,hs,hs1,hc,hd,ht=>by
  unfold makesF
  exact⟨hw,hA,fun _ _ _ h=>h,⟨[],by simpa using hs⟩,by simp [szL],Nat.le_refl _⟩
 | x :: l,ih,sl,loose,h,c,i,s,ho,hw,hA,hi,hs,hs1,hc,hd,ht=>by
  simp only [okL,dpL,szL] at ho hd ht
  have M:=ih x (by simp) ho.1 hw hA (.inr ⟨s,hs,hs1⟩) hc (by omega) (by omega)
  unfold makesF
  generalize hsl1:makeF x h sl=sl1 at M ⊢
  generalize hhk:freshH sl=hk at M ⊢
  have hs':=M.ext h s hs
  obtain⟨k,k1,k2,k3,k4⟩:=slA_iff.1 hs'
  obtain rfl:k=i:=by omega
  have hfew:=M.wfs.few
  have hlt:k < sl1.length:=(List.getElem?_eq_some_iff.1 k2).1
  rw [modify_set _ _ _ _ k2]
  have e:∀y,slA (sl1.set k { s with kids:=s.kids++[hk] }) y=setA (slA sl1) h (s.kids++[hk]) y:=fun y=>by
   rw [slA_set (s':={ s with kids:=s.kids++[hk] }) k1 hs' rfl k3]
   unfold setA
   have h0:=hA.ne0 hs
   by_cases ey:y=h
   ·subst ey;rw [if_pos rfl,if_pos ⟨rfl,h0⟩,hs'];rfl
   ·rw [if_neg ey,if_neg (fun e=>ey e.1)]
  have e':=funext e
  have hnl:hk∉loose:=fun hm=>by
   obtain⟨t,ht⟩:=hA.lo hk hm
   rw [M.new] at ht;cases ht
  have A2:WfA (slA (sl1.set k { s with kids:=s.kids++[hk] })) roots loose:=by rw [e'];exact M.wf.hang1 hs' hs1 M.top hnl
  have w2:WfS (sl1.set k { s with kids:=s.kids++[hk] }):=M.wfs.set (M.wfs.gen s (List.mem_of_getElem? k2)) (by rw [k3];simp) (fun _=>M.wfs.live s (List.mem_of_getElem? k2) k3)
  have s2:slA (sl1.set k { s with kids:=s.kids++[hk] }) h=some { s with kids:=s.kids++[hk] }:=by rw [slA_set (s':={ s with kids:=s.kids++[hk] }) k1 hs' rfl k3,if_pos rfl]
  have c2:Ch (slA (sl1.set k { s with kids:=s.kids++[hk] })) h c:=(hc.mono fun y t hy=>⟨t,M.ext y t hy,rfl⟩).mono fun y t hy=>by
   rw [e]
   obtain⟨u,u1,u2,_⟩:=setA_of' (p:=h) (l:=s.kids++[hk]) hy
   exact⟨u,u1,u2⟩
  have t2:tk (sl1.set k { s with kids:=s.kids++[hk] })=tk sl+szT x:=by
   have:=tk_set (b:={ s with kids:=s.kids++[hk] }) k2
   have mt:=M.tk
   simp only at this
   omega
  obtain⟨r1,r2,r3,⟨ks,r4⟩,r5,r6⟩:=makes_wf l (fun y hy=>ih y (by simp [hy])) (i:=k) ho.2 w2 A2 k1 s2 hs1 c2 (by omega) (by omega)
  refine⟨r1,r2,fun y t hy ht=>r3 y t hy ?_,⟨hk :: ks,by rw [r4];simp⟩,by simp only [szL];omega,?_⟩
  ·rw [e]
   unfold setA
   rw [if_neg (fun e=>hy e.1)]
   exact M.ext y t ht
  ·have ml:=M.len
   rw [List.length_set] at r6
   omega
theorem make_wf:∀(x:Tr) {sl:List Sl}{loose:List Nat}{p c:Nat},okT x→WfS sl→WfA (slA sl) roots loose→(p=0∨∃t,slA sl p=some t∧t.kind=1)→Ch (slA sl) p c→c+dpT x≤64→tk sl+szT x≤4096→Made roots loose sl (makeF x p sl) p (freshH sl) (szT x):=by
 refine Tr.ind fun kind nm attrs text kids ih sl loose p c ho hw hA hp hc hd ht=>?_
 unfold okT at ho
 obtain⟨o1,o2,o3⟩:=ho
 unfold makeF
 unfold dpT at hd
 unfold szT at ht ⊢
 by_cases hk:kind=2
 ·subst hk
  rw [if_pos rfl] at hd ht ⊢
  rw [if_pos rfl]
  refine (one_wf (s:=⟨genI sl,true,2,noB,[],text,p,[]⟩) ⟨?_,.inr ⟨rfl,rfl,rfl,rfl⟩⟩ rfl rfl rfl rfl hw hA hp hc (by omega) (by omega)).1
  unfold ownF at o1 ⊢
  rw [if_neg (by decide),if_pos rfl] at o1
  rw [if_neg (show ¬(2:Int)=1 by decide),if_pos rfl]
  exact o1
 ·have hk1:kind=1:=o2.resolve_right hk
  subst hk1
  rw [if_neg hk] at hd ht ⊢
  rw [if_neg hk]
  have hok:okSl ⟨genI sl,true,1,nm,attrs,noB,p,[]⟩:=⟨by unfold ownF at o1 ⊢;exact o1,.inl ⟨rfl,rfl⟩⟩
  obtain⟨M,hs⟩:=one_wf (s:=⟨genI sl,true,1,nm,attrs,noB,p,[]⟩) hok rfl rfl rfl rfl hw hA hp hc (by omega) (by omega)
  generalize hsl1:(roomF sl).set (freeI sl) ⟨genI sl,true,1,nm,attrs,noB,p,[]⟩=sl1 at M hs ⊢
  have h0:freshH sl≠0:=by unfold freshH hnd;omega
  have hi:freshH sl % 4294967296=freeI sl+1:=by
   obtain⟨d,d1,_⟩:=room_get hw
   have:=(room_wf hw (by omega)).few
   have:=(List.getElem?_eq_some_iff.1 d1).1
   unfold freshH;exact hnd_mod (by omega)
  have hc1:Ch (slA sl1) (freshH sl) (c+1):=.succ h0 hs (hc.mono fun y t hy=>⟨t,M.ext y t hy,rfl⟩)
  have mt:=M.tk
  obtain⟨r1,r2,r3,⟨ks,r4⟩,r5,r6⟩:=makes_wf kids ih (o3 rfl) M.wfs M.wf hi hs rfl hc1 (by omega) (by omega)
  refine⟨r1,r2,M.new,fun y t hy=>r3 y t ?_ (M.ext y t hy),⟨_,r4,rfl⟩,by omega,Nat.le_trans M.len r6⟩
  rintro rfl
  rw [M.new] at hy;cases hy
end
--PURE
inductive De (A:Nat→Option Sl) (x:Nat):Nat→Nat→Prop where
 | self:De A x x 0
 | up {y d:Nat}{s:Sl}:A y=some s→De A x s.parent d→De A x y (d+1)
def allA (A:Nat→Option Sl):Nat→Nat→List Nat
 | 0,_=>[]
 | r+1,x=>x :: (match A x with | some s=>s.kids.flatMap (allA A r) | none=>[])
def dpA (A:Nat→Option Sl):Nat→Nat→Nat
 | 0,_=>0
 | r+1,x=>1+(match A x with | some s=>(s.kids.map (dpA A r)).foldl max 0 | none=>0)
theorem allA_some {A:Nat→Option Sl}{r x:Nat}{s:Sl} (h:A x=some s):allA A (r+1) x=x :: s.kids.flatMap (allA A r):=by
 rw [allA,h]
theorem dpA_some {A:Nat→Option Sl}{r x:Nat}{s:Sl} (h:A x=some s):dpA A (r+1) x=1+(s.kids.map (dpA A r)).foldl max 0:=by
 rw [dpA,h]
theorem foldl_max_ge:∀(l:List Nat) (a:Nat),a≤l.foldl max a∧∀y∈l,y≤l.foldl max a
 | [],a=>by simp
 | x :: l,a=>by
  obtain⟨h1,h2⟩:=foldl_max_ge l (max a x)
  rw [List.foldl_cons]
  refine⟨by omega,fun y hy=>?_⟩
  rcases List.mem_cons.1 hy with rfl | hy
  ·omega
  ·exact h2 y hy
theorem le_foldl_max {l:List Nat}{a y:Nat} (h:y∈l):y≤l.foldl max a:=(foldl_max_ge l a).2 y h
section
variable {A:Nat→Option Sl}{roots loose:List Nat}
theorem De.wi {x y d:Nat} (h:De A x y d):Wi A x y:=by
 induction h with
 | self=>exact .self
 | up ha _ ih=>exact .up ha ih
theorem Wi.de {x y:Nat} (h:Wi A x y):∃d,De A x y d:=by
 induction h with
 | self=>exact⟨0,.self⟩
 | up ha _ ih=>obtain⟨d,hd⟩:=ih;exact⟨d+1,.up ha hd⟩
theorem De.ch {x y d c:Nat} (h0:A 0=none) (h:De A x y d) (hc:Ch A x c):Ch A y (c+d):=by
 induction h with
 | self=>exact hc
 | up ha _ ih=>exact .succ (fun e=>by subst e;rw [h0] at ha;cases ha) ha ih
theorem De.fn {x x' y d:Nat} (h:De A x y d) (h':De A x' y d):x=x':=by
 induction h with
 | self=>cases h';rfl
 | up ha _ ih=>cases h' with
  | up hb h2=>rw [ha] at hb;cases hb;exact ih h2
theorem De.down {x k y d:Nat}{s:Sl} (hk:A k=some s) (hp:s.parent=x) (h:De A k y d):De A x y (d+1):=by
 induction h with
 | self=>exact .up hk (by rw [hp];exact .self)
 | up ha _ ih=>exact .up ha ih
theorem De.split (hA:WfA A roots loose) {x y d:Nat} (h:De A x y (d+1)) (hx:x≠0) (hl:∀z,z∈loose→z=x∨¬Wi A x z) (hne:∀z e,De A x z (e+1)→z≠x):∃k s,A x=some s∧k∈s.kids∧De A k y d:=by
 generalize hn:d+1=n at h
 induction h generalizing d with
 | self=>omega
 | @up y d' s ha h2 ih =>
  obtain rfl:d'=d:=by omega
  cases d' with
  | zero =>
   cases h2
   have hy:y≠s.parent:=hne y 0 (.up ha .self)
   have hm:y∉loose:=fun hy2=>by
    rcases hl y hy2 with e | e
    ·exact hy e
    ·exact e (.up ha .self)
   have h3:=hA.mem y s ha hm
   rcases hA.par y s ha with e | ⟨t,ht,_⟩
   ·exact absurd e hx
   ·rw [lstA_some hx ht] at h3
    exact⟨y,t,ht,h3,.self⟩
  | succ d =>
   obtain⟨k,t,h3,h4,h5⟩:=ih rfl
   exact⟨k,t,h3,h4,.up ha h5⟩
theorem WfA.de_ne (hA:WfA A roots loose) {x:Nat} (hx:∃s,A x=some s):∀z e,De A x z (e+1)→z≠x:=by
 rintro z e h rfl
 obtain⟨s,hs⟩:=hx
 obtain⟨c,_,hc⟩:=hA.chain z s hs
 have:=(h.ch hA.zero hc).fn hc
 omega
theorem mem_allA (hA:WfA A roots loose):∀(r x y:Nat),(∃s,A x=some s)→(∀z,z∈loose→z=x∨¬Wi A x z)→(y∈allA A r x↔∃d,d < r∧De A x y d):=by
 intro r
 induction r with
 | zero=>intro x y hx hl;simp [allA]
 | succ r ih =>
  intro x y hx hl
  obtain⟨s,hs⟩:=hx
  rw [allA_some hs,List.mem_cons,List.mem_flatMap]
  have hkid:∀k∈s.kids,∃t,A k=some t∧t.parent=x:=fun k hk=>((hA.kid x s hs).2 k hk).2
  have hkl:∀k∈s.kids,∀z,z∈loose→z=k∨¬Wi A k z:=fun k hk z hz=>by
   refine .inr fun hw=>?_
   obtain⟨t,t1,t2⟩:=hkid k hk
   obtain⟨d,hd⟩:=hw.de
   have h2:=hd.down t1 t2
   rcases hl z hz with e | e
   ·exact hA.de_ne ⟨s,hs⟩ z d h2 e
   ·exact e h2.wi
  constructor
  ·rintro (rfl | ⟨k,hk,hy⟩)
   ·exact⟨0,by omega,.self⟩
   ·obtain⟨t,t1,t2⟩:=hkid k hk
    obtain⟨d,d1,d2⟩:=(ih k y ⟨t,t1⟩ (hkl k hk)).1 hy
    exact⟨d+1,by omega,d2.down t1 t2⟩
  ·rintro ⟨d,d1,d2⟩
   cases d with
   | zero=>cases d2;exact .inl rfl
   | succ d =>
    obtain⟨k,t,k1,k2,k3⟩:=d2.split hA (hA.ne0 hs) hl (hA.de_ne ⟨s,hs⟩)
    rw [hs] at k1;cases k1
    obtain⟨t,t1,t2⟩:=hkid k k2
    exact .inr ⟨k,k2,(ih k y ⟨t,t1⟩ (hkl k k2)).2 ⟨d,by omega,k3⟩⟩
theorem mem_all (hA:WfA A roots loose) {r x y c:Nat} (hx:∃s,A x=some s) (hl:∀z,z∈loose→z=x∨¬Wi A x z) (hc:Ch A x c) (hr:65≤c+r):y∈allA A r x↔Wi A x y:=by
 rw [mem_allA hA r x y hx hl]
 constructor
 ·rintro ⟨d,_,hd⟩;exact hd.wi
 ·intro h
  obtain⟨d,hd⟩:=h.de
  refine⟨d,?_,hd⟩
  have h2:=hd.ch hA.zero hc
  have:∃s,A y=some s:=by
   cases hd with
   | self=>exact hx
   | up ha _=>exact⟨_,ha⟩
  obtain⟨s,hs⟩:=this
  obtain⟨c',h3,h4⟩:=hA.chain y s hs
  have:=h2.fn h4
  omega
theorem all_live (hA:WfA A roots loose) {r x y:Nat} (hx:∃s,A x=some s) (hl:∀z,z∈loose→z=x∨¬Wi A x z) (h:y∈allA A r x):∃s,A y=some s:=by
 obtain⟨d,_,hd⟩:=(mem_allA hA r x y hx hl).1 h
 cases hd with
 | self=>exact hx
 | up ha _=>exact⟨_,ha⟩
theorem flatMap_nodup {α β:Type} (f:α→List β):∀(l:List α),l.Nodup→(∀a∈l,(f a).Nodup)→(∀a∈l,∀b∈l,a≠b→∀y,y∈f a→y∉f b)→(l.flatMap f).Nodup
 | [],_,_,_=>by simp
 | a :: l,h1,h2,h3=>by
  rw [List.flatMap_cons,List.nodup_append]
  have h4:=List.nodup_cons.1 h1
  refine⟨h2 a (by simp),flatMap_nodup f l h4.2 (fun b hb=>h2 b (by simp [hb])) (fun b hb c hc=>h3 b (by simp [hb]) c (by simp [hc])),fun y hy z hz e=>?_⟩
  subst e
  obtain⟨b,hb,hz⟩:=List.mem_flatMap.1 hz
  exact h3 a (by simp) b (by simp [hb]) (fun e=>h4.1 (e ▸ hb)) y hy hz
theorem all_nodup (hA:WfA A roots loose):∀(r x:Nat),(∃s,A x=some s)→(∀z,z∈loose→z=x∨¬Wi A x z)→(allA A r x).Nodup:=by
 intro r
 induction r with
 | zero=>intro x hx hl;simp [allA]
 | succ r ih =>
  intro x hx hl
  obtain⟨s,hs⟩:=hx
  rw [allA_some hs,List.nodup_cons]
  have hkid:∀k∈s.kids,∃t,A k=some t∧t.parent=x:=fun k hk=>((hA.kid x s hs).2 k hk).2
  have hkl:∀k∈s.kids,∀z,z∈loose→z=k∨¬Wi A k z:=fun k hk z hz=>by
   refine .inr fun hw=>?_
   obtain⟨t,t1,t2⟩:=hkid k hk
   obtain⟨d,hd⟩:=hw.de
   have h2:=hd.down t1 t2
   rcases hl z hz with e | e
   ·exact hA.de_ne ⟨s,hs⟩ z d h2 e
   ·exact e h2.wi
  refine⟨fun hm=>?_,flatMap_nodup _ _ (hA.kid x s hs).1 (fun k hk=>?_) (fun a ha b hb hab y h1 h2=>?_)⟩
  ·obtain⟨k,k1,k2⟩:=List.mem_flatMap.1 hm
   obtain⟨t,t1,t2⟩:=hkid k k1
   obtain⟨d,_,hd⟩:=(mem_allA hA r k x ⟨t,t1⟩ (hkl k k1)).1 k2
   exact hA.de_ne ⟨s,hs⟩ x d (hd.down t1 t2) rfl
  ·obtain⟨t,t1,t2⟩:=hkid k hk
   exact ih k ⟨t,t1⟩ (hkl k hk)
  ·obtain⟨t,t1,t2⟩:=hkid a ha
   obtain⟨u,u1,u2⟩:=hkid b hb
   obtain⟨d,_,hd⟩:=(mem_allA hA r a y ⟨t,t1⟩ (hkl a ha)).1 h1
   obtain⟨e,_,he⟩:=(mem_allA hA r b y ⟨u,u1⟩ (hkl b hb)).1 h2
   obtain⟨c,_,hc⟩:=hA.chain x s hs
   have c1:Ch A a (c+1):=.succ (hA.ne0 t1) t1 (by rw [t2];exact hc)
   have c2:Ch A b (c+1):=.succ (hA.ne0 u1) u1 (by rw [u2];exact hc)
   have:=(hd.ch hA.zero c1).fn (he.ch hA.zero c2)
   obtain rfl:d=e:=by omega
   exact hab (hd.fn he)
theorem dp_de (hA:WfA A roots loose):∀(r x y d:Nat),(∃s,A x=some s)→(∀z,z∈loose→z=x∨¬Wi A x z)→d < r→De A x y d→d+1≤dpA A r x:=by
 intro r
 induction r with
 | zero=>intro x y d hx hl hd;omega
 | succ r ih =>
  intro x y d hx hl hd h
  obtain⟨s,hs⟩:=hx
  rw [dpA_some hs]
  cases d with
  | zero=>omega
  | succ d =>
   obtain⟨k,t,k1,k2,k3⟩:=h.split hA (hA.ne0 hs) hl (hA.de_ne ⟨s,hs⟩)
   rw [hs] at k1;cases k1
   obtain⟨t,t1,t2⟩:=((hA.kid x s hs).2 k k2).2
   have hkl:∀z,z∈loose→z=k∨¬Wi A k z:=fun z hz=>by
    refine .inr fun hw=>?_
    obtain⟨d,hd⟩:=hw.de
    have h2:=hd.down t1 t2
    rcases hl z hz with e | e
    ·exact hA.de_ne ⟨s,hs⟩ z d h2 e
    ·exact e h2.wi
   have h3:=ih k y d ⟨t,t1⟩ hkl (by omega) k3
   have h4:dpA A r k≤(s.kids.map (dpA A r)).foldl max 0:=le_foldl_max (List.mem_map.2 ⟨k,k2,rfl⟩)
   omega
theorem WfA.out (h:WfA A roots []) {n:Nat}{s:Sl} (hn:A n=some s):WfA (setA A s.parent ((lstA A roots s.parent).erase n)) (setR roots s.parent ((lstA A roots s.parent).erase n)) [n]:=by
 obtain⟨l1,l2⟩:=h.lst s.parent
 refine h.setL (h.par n s hn) (l1.erase _) (fun x hx=>?_) (fun x t hx hp hl=>?_) (fun x t hx hp=>?_) (fun x hx=>?_)
 ·obtain⟨h1,h2⟩:=l2 x (List.mem_of_mem_erase hx)
  refine⟨?_,h2⟩
  rw [List.mem_singleton]
  rintro rfl
  exact (l1.not_mem_erase hx).elim
 ·have h1:=h.mem x t hx (by simp)
  rw [hp] at h1
  exact (List.mem_erase_of_ne (by simpa using hl)).2 h1
 ·simp only [List.mem_singleton,List.not_mem_nil,iff_false]
  rintro rfl
  rw [hn] at hx;cases hx;exact hp rfl
 ·rw [List.mem_singleton] at hx;subst hx;exact⟨s,hn⟩
theorem WfA.rep (h:WfA A roots loose) {n p c:Nat}{s:Sl} (hn:A n=some s) (hl:n∈loose) (hp:p=0∨∃t,A p=some t∧t.kind=1) (hc:Ch A p c) (hw:¬Wi A n p) (hd:∀y d,De A n y d→c+1+d≤64) :
  WfA (updA A n (some { s with parent:=p })) roots loose:=by
 have hold:∀x t,updA A n (some { s with parent:=p }) x=some t→∃u,A x=some u∧t.kids=u.kids∧t.kind=u.kind∧okSl t∧(x≠n→t=u):=fun x t hx=>by
  by_cases e:x=n
  ·subst e;rw [updA_self] at hx;cases hx;exact⟨s,hn,rfl,rfl,h.ok x s hn,fun h=>absurd rfl h⟩
  ·rw [updA_ne e] at hx;exact⟨t,hx,rfl,rfl,h.ok x t hx,fun _=>rfl⟩
 have hnew:∀x u,A x=some u→∃t,updA A n (some { s with parent:=p }) x=some t∧t.kids=u.kids∧t.kind=u.kind∧(x≠n→t=u):=fun x u hx=>by
  by_cases e:x=n
  ·subst e;rw [hn] at hx;cases hx;exact⟨_,updA_self _ _ _,rfl,rfl,fun h=>absurd rfl h⟩
  ·exact⟨u,by rw [updA_ne e];exact hx,rfl,rfl,fun _=>rfl⟩
 have hpe:∀q,(q=0∨∃t,A q=some t∧t.kind=1)→(q=0∨∃t,updA A n (some { s with parent:=p }) q=some t∧t.kind=1):=fun q hq=>by
  rcases hq with hq | ⟨t,h1,h2⟩
  ·exact .inl hq
  ·obtain⟨u,u1,u2,u3,u4⟩:=hnew _ _ h1
   exact .inr ⟨u,u1,by rw [u3,h2]⟩
 have hch:∀x c,Ch A x c→¬Wi A n x→Ch (updA A n (some { s with parent:=p })) x c:=fun x c hx=>by
  induction hx with
  | zero=>intro _;exact .zero
  | @succ y c t h0 ha _ ih =>
   intro hw2
   have e:y≠n:=fun e=>hw2 (by rw [e];exact .self)
   exact .succ h0 (by rw [updA_ne e];exact ha) (ih fun h3=>hw2 (.up ha h3))
 have hcn:Ch (updA A n (some { s with parent:=p })) n (c+1):=.succ (h.ne0 hn) (updA_self _ _ _) (hch p c hc hw)
 have hcd:∀y d,De A n y d→Ch (updA A n (some { s with parent:=p })) y (c+1+d):=fun y d hy=>by
  induction hy with
  | self=>exact hcn
  | @up y d t ha h2 ih =>
   have e:y≠n:=h.de_ne ⟨s,hn⟩ y d (.up ha h2)
   exact .succ (h.ne0 ha) (by rw [updA_ne e];exact ha) ih
 refine⟨?_,fun x t hx=>?_,fun x t hx=>?_,fun x t hx=>?_,fun x t hx=>?_,⟨h.root.1,fun x hx=>?_⟩,fun x t hx hlo=>?_,fun x hx=>?_⟩
 ·rw [updA_ne (Ne.symm (h.ne0 hn))];exact h.zero
 ·obtain⟨u,k1,k2,k3,k4,k5⟩:=hold x t hx;exact k4
 ·by_cases e:x=n
  ·subst e;rw [updA_self] at hx;cases hx;exact hpe _ hp
  ·rw [updA_ne e] at hx;exact hpe _ (h.par x t hx)
 ·by_cases hw2:Wi A n x
  ·obtain⟨d,hd2⟩:=hw2.de
   exact⟨_,hd x d hd2,hcd x d hd2⟩
  ·obtain⟨u,k1,-⟩:=hold x t hx
   obtain⟨c',c1,c2⟩:=h.chain x u k1
   exact⟨c',c1,hch x c' c2 hw2⟩
 ·obtain⟨u,k1,k2,k3,k4,k5⟩:=hold x t hx
  rw [k2]
  obtain⟨m1,m2⟩:=h.kid x u k1
  refine⟨m1,fun y hy=>?_⟩
  obtain⟨q1,v,q2,q3⟩:=m2 y hy
  refine⟨q1,v,?_,q3⟩
  rw [updA_ne (fun e:y=n=>q1 (e ▸ hl))];exact q2
 ·obtain⟨q1,v,q2,q3⟩:=h.root.2 x hx
  exact⟨q1,v,by rw [updA_ne (fun e:x=n=>q1 (e ▸ hl))];exact q2,q3⟩
 ·have e:x≠n:=fun e=>hlo (e ▸ hl)
  rw [updA_ne e] at hx
  have k6:=h.mem x t hx hlo
  rcases h.par x t hx with k7 | ⟨v,k7,-⟩
  ·rw [k7,lstA_zero] at k6 ⊢;exact k6
  ·rw [lstA_some (h.ne0 k7) k7] at k6
   obtain⟨y,y1,y2,_⟩:=hnew _ _ k7
   rw [lstA_some (h.ne0 k7) y1,y2];exact k6
 ·obtain⟨t,ht⟩:=h.lo x hx
  obtain⟨u,hu,_⟩:=hnew x t ht
  exact⟨u,hu⟩
theorem WfA.kill {n:Nat} (h:WfA A roots [n]) {s:Sl} (hn:A n=some s) {L:List Nat} (hL:∀x t,A x=some t→(x∈L↔Wi A n x)):WfA (fun x=>if x∈L then none else A x) roots []:=by
 have hold:∀x t,(if x∈L then none else A x)=some t→A x=some t∧¬Wi A n x:=fun x t hx=>by
  by_cases e:x∈L
  ·rw [if_pos e] at hx;cases hx
  ·rw [if_neg e] at hx;exact⟨hx,fun h2=>e ((hL x t hx).2 h2)⟩
 have hnew:∀x t,A x=some t→¬Wi A n x→(if x∈L then none else A x)=some t:=fun x t hx hw=>by
  rw [if_neg (fun e=>hw ((hL x t hx).1 e))];exact hx
 have hpar:∀x t,A x=some t→¬Wi A n x→¬Wi A n t.parent:=fun x t hx hw h2=>hw (.up hx h2)
 have hkid:∀p x,¬Wi A n p→x∉[n]→(∃t,A x=some t∧t.parent=p)→¬Wi A n x:=fun p x hp hx ⟨t,t1,t2⟩ hw=>by
  cases hw with
  | self=>exact hx (by simp)
  | up ha h2=>rw [t1] at ha;cases ha;rw [t2] at h2;exact hp h2
 have h00:¬Wi A n 0:=fun hw=>by
  cases hw with
  | self=>exact h.ne0 hn rfl
  | up ha h2=>rw [h.zero] at ha;cases ha
 refine⟨by split;rfl;exact h.zero,fun x t hx=>?_,fun x t hx=>?_,fun x t hx=>?_,fun x t hx=>?_,⟨h.root.1,fun x hx=>?_⟩,fun x t hx hlo=>?_,fun x hx=>by simp at hx⟩
 ·exact h.ok x t (hold x t hx).1
 ·obtain⟨h1,h2⟩:=hold x t hx
  rcases h.par x t h1 with h3 | ⟨u,h3,h4⟩
  ·exact .inl h3
  ·exact .inr ⟨u,hnew _ _ h3 (hpar x t h1 h2),h4⟩
 ·obtain⟨h1,h2⟩:=hold x t hx
  obtain⟨c,c1,c2⟩:=h.chain x t h1
  refine⟨c,c1,?_⟩
  clear c1
  induction c2 generalizing t with
  | zero=>exact .zero
  | @succ y c u h0 ha h3 ih =>
   obtain rfl:u=t:=by rw [h1] at ha;cases ha;rfl
   refine .succ h0 (hnew _ _ h1 h2) ?_
   rcases h.par y _ h1 with h4 | ⟨v,h4,-⟩
   ·rw [h4] at h3 ⊢
    cases h3 with
    | zero=>exact .zero
    | succ h5=>exact absurd rfl h5
   ·exact ih v (hnew _ _ h4 (hpar y _ h1 h2)) h4 (hpar y _ h1 h2)
 ·obtain⟨h1,h2⟩:=hold x t hx
  obtain⟨m1,m2⟩:=h.kid x t h1
  refine⟨m1,fun y hy=>⟨by simp,?_⟩⟩
  obtain⟨q1,v,q2,q3⟩:=m2 y hy
  exact⟨v,hnew y v q2 (hkid x y h2 q1 ⟨v,q2,q3⟩),q3⟩
 ·obtain⟨q1,v,q2,q3⟩:=h.root.2 x hx
  exact⟨by simp,v,hnew x v q2 (hkid 0 x h00 q1 ⟨v,q2,q3⟩),q3⟩
 ·obtain⟨h1,h2⟩:=hold x t hx
  have h3:=h.mem x t h1 fun e=>by
   rw [List.mem_singleton] at e;subst e;exact h2 .self
  rcases h.par x t h1 with k7 | ⟨v,k7,-⟩
  ·rw [k7,lstA_zero] at h3 ⊢;exact h3
  ·rw [lstA_some (h.ne0 k7) k7] at h3
   rw [lstA_some (h.ne0 k7) (hnew _ _ k7 (hpar x t h1 h2))];exact h3
end
end Go.Proofs.YtccplipiahdhiaaGreatDoor
