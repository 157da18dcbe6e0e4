/-
  A reel whose power is on, as plain data: what each call comes to.
-/
import Derived.Test.YtjmddbhbibmjdaaLive3
namespace Go.Proofs.Ytjmddbhbibmjdaa
set_option linter.unusedVariables false
set_option linter.unusedSimpArgs false
open Go.RowKit

/-- A reel whose power is on. -/
def lv (room : Int) (a b c d : List UInt8) (n : Int) : RS := { s0 := a, r0 := b, s1 := c, r1 := d, room := room, left := -1, dead := false, ops := n }
theorem lv_new (room : Int) : RS.new room = lv room [] [] [] [] 0 := rfl
theorem lv_begin (room : Int) (a b c d : List UInt8) (n t : Int) (ht : t = 0 ∨ t = 1) : (lv room a b c d n).begin_ t = (lv room a b c d n, 0) := by
  have h : ¬ (t < 0 ∨ 2 ≤ t) := by omega
  unfold RS.begin_
  rw [if_neg h]
  rfl
theorem lv_op (room : Int) (a b c d : List UInt8) (n t : Int) (ht : t = 0 ∨ t = 1) (f : RS → RS × Int) : (lv room a b c d n).op t f = f (lv room a b c d n) := by
  unfold RS.op
  rw [lv_begin _ _ _ _ _ _ _ ht]
  rfl
theorem lv_write0 (room : Int) (a b c d q : List UInt8) (n m : Int) (r : List UInt8) (hr : b ++ q = r) (hm : wrap64 (n + 1) = m) (h : (a.length + b.length + (c.length + d.length) + q.length : Int) ≤ room) : (lv room a b c d n).write 0 q = (lv room a r c d m, 0) := by
  subst hr hm
  unfold RS.write
  rw [lv_op _ _ _ _ _ _ _ (.inl rfl)]
  exact if_neg (by simp only [RS.free, lv]; omega)
theorem lv_write1 (room : Int) (a b c d q : List UInt8) (n m : Int) (r : List UInt8) (hr : d ++ q = r) (hm : wrap64 (n + 1) = m) (h : (a.length + b.length + (c.length + d.length) + q.length : Int) ≤ room) : (lv room a b c d n).write 1 q = (lv room a b c r m, 0) := by
  subst hr hm
  unfold RS.write
  rw [lv_op _ _ _ _ _ _ _ (.inr rfl)]
  exact if_neg (by simp only [RS.free, lv]; omega)
theorem lv_full0 (room : Int) (a b c d q : List UInt8) (n : Int) (h : room < (a.length + b.length + (c.length + d.length) + q.length : Int)) : (lv room a b c d n).write 0 q = (lv room a b c d n, 5) := by
  unfold RS.write
  rw [lv_op _ _ _ _ _ _ _ (.inl rfl)]
  exact if_pos (by simp only [RS.free, lv]; omega)
theorem lv_sync0 (room : Int) (a b c d : List UInt8) (n m : Int) (r : List UInt8) (hr : a ++ b = r) (hm : wrap64 (n + 1) = m) : (lv room a b c d n).sync 0 = (lv room r [] c d m, 0) := by
  subst hr hm
  unfold RS.sync
  rw [lv_op _ _ _ _ _ _ _ (.inl rfl)]
  rfl
theorem lv_sync1 (room : Int) (a b c d : List UInt8) (n m : Int) (r : List UInt8) (hr : c ++ d = r) (hm : wrap64 (n + 1) = m) : (lv room a b c d n).sync 1 = (lv room a b r [] m, 0) := by
  subst hr hm
  unfold RS.sync
  rw [lv_op _ _ _ _ _ _ _ (.inr rfl)]
  rfl
theorem lv_trim0 (room : Int) (a b c d : List UInt8) (n m n' : Int) (hm : wrap64 (n + 1) = n') (h0 : 0 ≤ m) (h1 : m ≤ a.length + b.length) : (lv room a b c d n).trim 0 m = (lv room (a.take m.toNat) (b.take (m.toNat - a.length)) c d n', 0) := by
  subst hm
  unfold RS.trim
  rw [if_neg (by omega), lv_op _ _ _ _ _ _ _ (.inl rfl)]
  exact if_neg (by show ¬ (a.length + b.length : Int) < m; omega)
theorem lv_read0 (room : Int) (a b c d : List UInt8) (n : Int) (r : List UInt8) (hr : a ++ b = r) : (lv room a b c d n).read 0 = (r, 0) := by subst hr; rfl
theorem lv_read1 (room : Int) (a b c d : List UInt8) (n : Int) (r : List UInt8) (hr : c ++ d = r) : (lv room a b c d n).read 1 = (r, 0) := by subst hr; rfl
theorem lv_crash (room : Int) (a b c d : List UInt8) (n k0 k1 : Int) (turn : UInt8) (r r' : List UInt8) (hr : a ++ RS.kept b k0 turn = r) (hr' : c ++ RS.kept d k1 turn = r') : (lv room a b c d n).crash k0 k1 turn = lv room r [] r' [] n := by subst hr hr'; rfl
theorem kept_zero (l : List UInt8) (turn : UInt8) : RS.kept l 0 turn = [] := by
  have h : RS.keepn l 0 = 0 := by unfold RS.keepn; omega
  rw [RS.kept_eq, h]
  simp
theorem kept_nil (k : Int) (turn : UInt8) : RS.kept [] k turn = [] := by
  rw [RS.kept_eq]
  simp
theorem str_bytes (l : List UInt8) : (str l).toList = l := by rw [ByteArray.toList_eq]; simp [str]
theorem cut_bytes (a : ByteArray) (n : Nat) : (a.extract 0 n).toList = a.data.toList.take n := by rw [ByteArray.toList_eq]; simp
theorem cat_cut (a b : ByteArray) (n : Nat) : ((a ++ b).extract 0 n).toList = a.data.toList.take n ++ b.data.toList.take (n - a.size) := by
  rw [cut_bytes]
  simp [List.take_append]
/-- The live law, as a call in a law's walk. -/
theorem live_call (w0 w : World) (hb : Below w0.heap.size w0 w) : Calls Try.prog 9 #[] w fun e w' => e = .returned (.bool true) ∧ Below w0.heap.size w0 w' := live_any w0 w hb
end Go.Proofs.Ytjmddbhbibmjdaa
