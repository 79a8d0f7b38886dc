/- The walks of codec.Writer. -/
import Derived.Test.YthcnoamgkkbkcaaNum
namespace Go.Proofs.Ythcnoamgkkbkcaa
open Go.RowKit

/-- Block g is a Writer: its bound, its bytes, its error. -/
def Wr (w : World) (g : Nat) (most : Int) (l : List UInt8) (e : Int) : Prop :=
  ∃ A c, w.heap[g]? = some (.cells #[.int .i64 most, .slice A l.length c, .int .i64 e] 168 (0, 0)) ∧ l.length ≤ c ∧ RdB w w.heap.size A l ∧ ∀ ad, A = some ad → ∃ cs f, w.heap[ad.block]? = some (.cells cs 5 f)
theorem RdB.fr {F : Nat → Prop} {w w' : World} {B : Nat} {A : Option Addr} {l : List UInt8} (h : RdB w B A l) (hf : Fr F w w') (hB : B ≤ w.heap.size) (hn : ∀ ad, A = some ad → ¬ F ad.block) : RdB w' B A l :=
  ⟨h.1, fun ad e => ⟨(h.2 ad e).1, fun j u hu => by
    have hb : (ad.add j).block = ad.block := by unfold Addr.add; split <;> rfl
    rw [World.cell?_of_block (w := w) (w' := w') (a := ad.add j) (by rw [hb]; exact hf.block _ (Nat.lt_of_lt_of_le (h.2 ad e).1 hB) (hn ad e))]
    exact (h.2 ad e).2 j u hu⟩⟩
/-- A Writer stays, where nothing of it is turned. -/
theorem Wr.fr {F : Nat → Prop} {w w' : World} {g : Nat} {most e : Int} {l : List UInt8} (h : Wr w g most l e) (hf : Fr F w w') (hg : ¬ F g) (hF : ∀ k, F k → ∀ cs f, w.heap[k]? ≠ some (.cells cs 5 f)) : Wr w' g most l e := by
  obtain ⟨A, c, hb, hc, hr, ht⟩ := h
  have hn : ∀ ad, A = some ad → ¬ F ad.block := fun ad ea hfa => by
    obtain ⟨cs, f, h5⟩ := ht ad ea
    exact hF _ hfa cs f h5
  exact ⟨A, c, hf.obj hb hg, hc, (hr.fr hf (Nat.le_refl _) hn).more hf.size, fun ad ea => by
    obtain ⟨cs, f, h5⟩ := ht ad ea
    exact ⟨cs, f, hf.obj h5 (hn ad ea)⟩⟩
theorem Wr.below {w w' : World} {g : Nat} {most e : Int} {l : List UInt8} (h : Wr w g most l e) (hb : Below w.heap.size w w') : Wr w' g most l e :=
  h.fr (F := fun _ => False) (Fr.of_below hb) (fun h => h) (fun _ h => h.elim)
theorem Wr.lt {w : World} {g : Nat} {most e : Int} {l : List UInt8} (h : Wr w g most l e) : g < w.heap.size := by
  obtain ⟨A, c, hb, _⟩ := h
  exact obj_lt hb

theorem OwB.lt5 {w : World} {B : Nat} {v : Value} {l : List UInt8} (h : OwB w B v l) : ∀ ad n c, v = .slice (some ad) n c → B ≤ ad.block ∧ ∃ cs f, w.heap[ad.block]? = some (.cells cs 5 f) := by
  intro ad n c hv
  rcases h.2 with ⟨rfl, _⟩ | ⟨g, cap, cur, rfl, hb, hh, _⟩
  · cases hv
  · cases hv
    exact ⟨hb, _, _, hh⟩

theorem obj_ne {w : World} {k g : Nat} {cs cs' : Array Value} {t t' : TypeId} {f f' : Nat × Nat} (h : w.heap[k]? = some (.cells cs t f)) (h' : w.heap[g]? = some (.cells cs' t' f')) (hne : t ≠ t') : k ≠ g := by
  rintro rfl
  rw [h] at h'
  injection h' with h'
  injection h' with _ h2
  exact hne h2
theorem wr_rd {w' : World} {g B : Nat} {A : Option Addr} {l : List UInt8} (h : RdB w' B A l) (hB : B ≤ w'.heap.size) (hn : ∀ ad, A = some ad → ad.block ≠ g) (j : Nat) (u : Value) :
    RdB (w'.setCell ⟨g, j, none⟩ u) (w'.setCell ⟨g, j, none⟩ u).heap.size A l :=
  (h.fr (F := (· = g)) ((Fr.refl (· = g) _).setCell (p := ⟨g, j, none⟩) (fun _ => rfl) u) hB (fun ad e => hn ad e)).more (by simpa [World.setCell] using hB)

theorem newWriter_any (n : Int) (w : World) (h0 : 0 ≤ n) (h1 : n ≤ 65536) :
    Calls Try.prog 59 #[.int .i64 n] w fun e w' => e = .returned (.pointer (some ⟨w.heap.size, 0, none⟩)) ∧ Wr w' w.heap.size n [] 0 ∧ Below w.heap.size w w' := by
  go_enter Try.func59, Try.ntmps59
  go_wp2
  go_ret
  exact ⟨rfl, ⟨none, 0, by simpa using obj_new w _, Nat.le_refl _, RdB.nil _ _, fun ad h => by cases h⟩, (Below.refl _ _).alloc (Nat.le_refl _) _⟩

def layTo (most : Int) (l x : List UInt8) : List UInt8 := if most < (l ++ x).length then l else l ++ x
def layErr (most : Int) (l x : List UInt8) : Int := if most < (l ++ x).length then 2 else 0
/-- What a closure that lays x must do. -/
def Lays (w : World) (fid cb : Nat) (l x : List UInt8) : Prop :=
  ∀ (w1 : World) (A : Option Addr), w1.heap = w.heap → RdB w1 w1.heap.size A l →
    Calls Try.prog fid #[.slice A l.length l.length, .pointer (some ⟨cb, 0, none⟩)] w1 fun e w' => ∃ v, e = .returned v ∧ OwB w' w1.heap.size v (l ++ x) ∧ Below w1.heap.size w1 w'
set_option maxRecDepth 100000 in
theorem lay_any (g fid cb : Nat) (most : Int) (l x : List UInt8) (w : World) (hW : Wr w g most l 0) (hcl : Lays w fid cb l x) (hcf : ∀ (args : Array Value) (w1 : World), (callFunc fid args).run Try.prog w1 = .ok (.enter fid args) w1) :
    Calls Try.prog 88 #[.pointer (some ⟨g, 0, none⟩), .func (.func fid) #[] #[.pointer (some ⟨cb, 0, none⟩)]] w fun e w' => e = .returned (.tuple #[]) ∧ Wr w' g most (layTo most l x) (layErr most l x) ∧ Fr (· = g) w w' := by
  obtain ⟨A, c, hb, hc, hr, ht⟩ := hW
  have c0 := obj_cell hb 0
  have c1 := obj_cell hb 1
  have c2 := obj_cell hb 2
  simp only [List.getElem?_toArray, List.getElem?_cons_zero, List.getElem?_cons_succ] at c0 c1 c2
  go_enter Try.func88, Try.ntmps88
  go_wp2_with fail
  go_still_tail 16, (by kernel_rfl)
  change wpList _ _ _ _ _ w.drew
  obtain ⟨w2, hw2⟩ : ∃ w2, w2 = w.drew := ⟨_, rfl⟩
  rw [← hw2]
  have hh : w2.heap = w.heap := by rw [hw2]; rfl
  have hr2 : RdB w2 w2.heap.size A l := by rw [hw2]; exact hr
  have hbel : Below w.heap.size w w2 := by rw [hw2]; exact (Below.refl w.heap.size w).drew
  have H2 := hide hw2
  have HH := hide hh
  have HR := hide hr2
  have HR0 := hide hr
  have HB := hide hbel
  clear hw2 hh hr2 hbel
  have HC := hide hcl
  clear hcl
  have HT := hide ht
  clear ht
  have HBk := hide hb
  clear hb
  go_wp2_with fail
  refine (HC.out w2 A HH.out HR.out).mono ?_
  rintro e w' ⟨v, rfl, hown, hb2⟩
  obtain ⟨m, hm⟩ : ∃ m, m = l ++ x := ⟨_, rfl⟩
  rw [← hm] at hown
  have HM := hide hm
  clear hm
  have hlt := hown.lt5
  obtain ⟨A2, cp2, rfl, hcp, hr3⟩ := hown.rd
  have hbl : Below w.heap.size w w' := HB.out.trans (hb2.mono HB.out.size)
  have hg : g < w.heap.size := obj_lt HBk.out
  have hbk : w'.heap[g]? = some (.cells #[.int .i64 most, .slice A l.length c, .int .i64 0] 168 (0, 0)) := obj_below HBk.out hbl
  have d0 := obj_cell hbk 0
  have d1 := obj_cell hbk 1
  have d2 := obj_cell hbk 2
  have f1 := obj_frozen hbk 1
  have f2 := obj_frozen hbk 2
  simp only [List.getElem?_toArray, List.getElem?_cons_zero, List.getElem?_cons_succ] at d0 d1 d2
  have HBL := hide hbl
  have HBK := hide hbk
  have HR3 := hide hr3
  have HLT := hide hlt
  clear hbl hbk hr3 hlt hown c0 c1 c2 hr hb2
  by_cases hfit : most < (m.length : Int)
  · go_wp2
    refine bodyPost_ret (results_none rfl _ _ _) rfl ?_
    refine ⟨rfl, ?_, ?_⟩
    · rw [layTo, layErr, ← HM.out, if_pos hfit, if_pos hfit]
      refine ⟨A, c, by simpa using obj_set HBK.out 2 _, hc, ?_, ?_⟩
      · exact wr_rd (HR0.out.below HBL.out) HBL.out.size (fun ad e => by
          obtain ⟨cs, f, h5⟩ := HT.out ad e
          exact obj_ne (obj_below h5 HBL.out) HBK.out (by decide)) _ _
      · intro ad e
        obtain ⟨cs, f, h5⟩ := HT.out ad e
        exact ⟨cs, f, obj_far (obj_below h5 HBL.out) (obj_ne (obj_below h5 HBL.out) HBK.out (by decide)) _⟩
    · exact (Fr.of_below (F := (· = g)) HBL.out).setCell (p := ⟨g, 2, none⟩) (fun _ => rfl) _
  · go_wp2
    go_end0
    refine ⟨rfl, ?_, ?_⟩
    · rw [layTo, layErr, ← HM.out, if_neg (Int.not_lt.2 hfit), if_neg (Int.not_lt.2 hfit)]
      refine ⟨A2, cp2, by simpa using obj_set HBK.out 1 _, hcp, ?_, ?_⟩
      · exact wr_rd HR3.out (Nat.le_refl _) (fun ad e => by
          obtain ⟨_, cs, f, h5⟩ := HLT.out ad _ _ (by rw [e])
          exact obj_ne h5 HBK.out (by decide)) _ _
      · intro ad e
        obtain ⟨_, cs, f, h5⟩ := HLT.out ad _ _ (by rw [e])
        exact ⟨cs, f, obj_far h5 (obj_ne h5 HBK.out (by decide)) _⟩
    · exact (Fr.of_below (F := (· = g)) HBL.out).setCell (p := ⟨g, 1, none⟩) (fun _ => rfl) _

/-- A Writer with an error lays nothing. -/
theorem lay_err (g : Nat) (F : Value) (most e : Int) (he : e ≠ 0) (l : List UInt8) (w : World) (hW : Wr w g most l e) :
    Calls Try.prog 88 #[.pointer (some ⟨g, 0, none⟩), F] w fun e w' => e = .returned (.tuple #[]) ∧ Below w.heap.size w w' := by
  obtain ⟨A, c, hb, hc, hr, ht⟩ := hW
  have c2 := obj_cell hb 2
  simp only [List.getElem?_toArray, List.getElem?_cons_zero, List.getElem?_cons_succ] at c2
  have he2 : (e == 0) = false := by simp [he]
  have he3 : (e != 0) = true := by simp [he]
  clear he
  go_enter Try.func88, Try.ntmps88
  go_wp2
  refine bodyPost_ret (results_none rfl _ _ _) rfl ?_
  exact ⟨rfl, Below.refl _ _⟩

theorem cf90 (args : Array Value) (w1 : World) : (callFunc 90 args).run Try.prog w1 = .ok (.enter 90 args) w1 := by go_simp
theorem cf89 (args : Array Value) (w1 : World) : (callFunc 89 args).run Try.prog w1 = .ok (.enter 89 args) w1 := by go_simp
theorem cf114 (args : Array Value) (w1 : World) : (callFunc 114 args).run Try.prog w1 = .ok (.enter 114 args) w1 := by go_simp

theorem int1_any (A : Option Addr) (l : List UInt8) (g : Nat) (n : Int) (w : World) (h : RdB w w.heap.size A l) (hl : l.length ≤ 1048576) (hc : w.cell? ⟨g, 0, none⟩ = some (.int .i64 n)) (h0 : -9223372036854775808 ≤ n) (h1 : n ≤ 9223372036854775807) :
    Calls Try.prog 90 #[.slice A l.length l.length, .pointer (some ⟨g, 0, none⟩)] w fun e w' => ∃ v, e = .returned v ∧ OwB w' w.heap.size v (l ++ num n) ∧ Below w.heap.size w w' := by
  have HR := hide h
  clear h
  go_enter Try.func90, Try.ntmps90
  go_wp2_with fail
  refine (number_any A l n _ HR.out hl h0 h1).mono ?_
  rintro e w' ⟨v, rfl, hown, hb⟩
  go_wp2
  go_ret
  exact ⟨v, rfl, hown, hb⟩

/-- What Writer.Int does to a Writer. -/
theorem wInt_ok (g : Nat) (most : Int) (l : List UInt8) (n : Int) (w : World) (hW : Wr w g most l 0) (hl : l.length ≤ 1048576) (h0 : -9223372036854775808 ≤ n) (h1 : n ≤ 9223372036854775807) :
    Calls Try.prog 63 #[.pointer (some ⟨g, 0, none⟩), .int .i64 n] w fun e w' => e = .returned (.tuple #[]) ∧ Wr w' g most (layTo most l (num n)) (layErr most l (num n)) ∧ Fr (· = g) w w' := by
  have HW := hide (hW.below ((Below.refl _ _).alloc (Nat.le_refl _) (.cells #[.int .i64 n] 3)))
  have hg := hW.lt
  clear hW
  go_enter Try.func63, Try.ntmps63
  go_wp2_with fail
  refine (lay_any g 90 w.heap.size most l (num n) _ HW.out (fun w1 A hh hr => int1_any A l _ n w1 hr hl ?_ h0 h1) cf90).mono ?_
  · have : w1.heap[w.heap.size]? = some (.cells #[.int .i64 n] 3) := by rw [hh]; exact obj_new w _
    simpa using obj_cell this 0
  · rintro e w' ⟨rfl, hw', hf⟩
    go_wp2
    go_end0
    exact ⟨rfl, hw', ((Fr.refl _ _).alloc _).trans hf (fun _ _ h => h)⟩
theorem wInt_fits (g : Nat) (most : Int) (l : List UInt8) (n : Int) (w : World) (hW : Wr w g most l 0) (hl : l.length ≤ 1048576) (h0 : -9223372036854775808 ≤ n) (h1 : n ≤ 9223372036854775807) (hfit : (l.length : Int) + 10 ≤ most) :
    Calls Try.prog 63 #[.pointer (some ⟨g, 0, none⟩), .int .i64 n] w fun e w' => e = .returned (.tuple #[]) ∧ Wr w' g most (l ++ num n) 0 ∧ Fr (· = g) w w' := by
  refine (wInt_ok g most l n w hW hl h0 h1).mono ?_
  rintro e w' ⟨rfl, hw, hf⟩
  have hlen := numN_ten (zz n) (zz_lt n h0 h1)
  have hn : ¬ most < ((l ++ num n).length : Int) := by
    rw [List.length_append]
    unfold num
    omega
  rw [layTo, layErr, if_neg hn, if_neg hn] at hw
  exact ⟨rfl, hw, hf⟩

set_option maxRecDepth 100000 in
/-- Writer.Byte, of a byte. -/
theorem wByte_fits (g : Nat) (most : Int) (l : List UInt8) (n : Int) (w : World) (hW : Wr w g most l 0) (hl : l.length ≤ 1048576) (h0 : 0 ≤ n) (h1 : n ≤ 255) (hfit : (l.length : Int) + 1 ≤ most) :
    Calls Try.prog 62 #[.pointer (some ⟨g, 0, none⟩), .int .i64 n] w fun e w' => e = .returned (.tuple #[]) ∧ Wr w' g most (l ++ [ub n]) 0 ∧ Fr (· = g) w w' := by
  have hW1 := hW.below ((Below.refl _ _).alloc (Nat.le_refl _) (.cells #[.int .i64 n] 3))
  have hg := hW.lt
  have HW := hide hW1
  obtain ⟨A, c, hb, hc, hr, ht⟩ := hW1
  have c2 := obj_cell hb 2
  simp only [List.getElem?_toArray, List.getElem?_cons_zero, List.getElem?_cons_succ] at c2
  clear hW hb hc hr ht
  have hn1 : decide (n < 0) = false := by simp; omega
  have hn2 : decide (255 < n) = false := by simp; omega
  go_enter Try.func62, Try.ntmps62
  go_wp2_with fail
  refine (lay_any g 89 w.heap.size most l [ub n] _ HW.out (fun w1 A hh hr => byte1_any A l _ n w1 hr hl ?_) cf89).mono ?_
  · have : w1.heap[w.heap.size]? = some (.cells #[.int .i64 n] 3) := by rw [hh]; exact obj_new w _
    simpa using obj_cell this 0
  · rintro e w' ⟨rfl, hw', hf⟩
    go_wp2
    go_end0
    have hn : ¬ most < ((l ++ [ub n]).length : Int) := by simp; omega
    rw [layTo, layErr, if_neg hn, if_neg hn] at hw'
    exact ⟨rfl, hw', ((Fr.refl _ _).alloc _).trans hf (fun _ _ h => h)⟩

theorem strCells_bytes (s : ByteArray) : Lib.strCells s = byteVals s.data.toList := by
  simp [Lib.strCells, byteVals]

theorem app_str {w : World} {B : Nat} {v : Value} {l : List UInt8} (h : OwB w B v l) (s : ByteArray) (hl : l.length + s.size ≤ 140737488355328) (hB : B ≤ w.heap.size) (ty : TypeId) :
    ∃ v' w', (Builtin.append_ #[119, 9] ty #[v, .string s]).run Try.prog w = .ok v' w' ∧ OwB w' B v' (l ++ s.data.toList) ∧ Below B w w' := by
  obtain ⟨i0, hi0, hz0, hz1, hz2⟩ := info_parts info5
  obtain ⟨v', w', hrun, hown, hg, _⟩ := Lib.run_append_own_string (P := Try.prog) w B 119 9 ty 5 i0 Try.underlying119 Try.underlying9 hi0 hz0 hz1 hz2 v l.length (byteVals l) h s (by simp only [maxLen]; omega) (by omega) hB
  refine ⟨v', w', hrun, ?_, (Below.refl B w).grown hg hB (fun k hk => ?_)⟩
  · unfold OwB
    rw [byteVals_append, List.length_append, ← size_list, ← strCells_bytes]
    exact hown
  · rcases h.2 with ⟨rfl, _⟩ | ⟨g, cap, cur, rfl, hb, _⟩
    · simp [Value.ownBlock] at hk
    · simp [Value.ownBlock] at hk
      omega

def textB (s : List UInt8) : List UInt8 := num s.length ++ s
set_option maxRecDepth 100000 in
theorem text_any (A : Option Addr) (l : List UInt8) (s : ByteArray) (w : World) (h : RdB w w.heap.size A l) (hl : l.length ≤ 1048576) (hs : s.size ≤ 1048576) :
    Calls Try.prog 115 #[.slice A l.length l.length, .string s] w fun e w' => ∃ v, e = .returned v ∧ OwB w' w.heap.size v (l ++ textB s.data.toList) ∧ Below w.heap.size w w' := by
  have HR := hide h
  clear h
  go_enter Try.func115, Try.ntmps115
  go_wp2_with fail
  refine (number_any A l s.size _ HR.out hl (by omega) (by omega)).mono ?_
  rintro e w1 ⟨v, rfl, hown, hb⟩
  have hz := zz_lt (s.size : Int) (by omega) (by omega)
  have hlen := numN_ten _ hz
  obtain ⟨v2, w2, hrun, hown2, hb2⟩ := app_str hown s (by rw [List.length_append]; unfold num; omega) hb.size 119
  have HB := hide (hb.trans hb2)
  have HO := hide hown2
  clear hb hown hb2 hown2 hz
  go_wp2_with (at_builtin; refine wpList_append_run rfl (.tmp 8) (.tmp 9) 119 9 rfl rfl rfl hrun ?_)
  go_ret
  refine ⟨v2, rfl, ?_, HB.out⟩
  have := HO.out
  rw [List.append_assoc] at this
  exact this
theorem text1_any (A : Option Addr) (l : List UInt8) (g : Nat) (s : ByteArray) (w : World) (h : RdB w w.heap.size A l) (hl : l.length ≤ 1048576) (hs : s.size ≤ 1048576) (hc : w.cell? ⟨g, 0, none⟩ = some (.string s)) :
    Calls Try.prog 114 #[.slice A l.length l.length, .pointer (some ⟨g, 0, none⟩)] w fun e w' => ∃ v, e = .returned v ∧ OwB w' w.heap.size v (l ++ textB s.data.toList) ∧ Below w.heap.size w w' := by
  have HR := hide h
  clear h
  go_enter Try.func114, Try.ntmps114
  go_wp2_with fail
  refine (text_any A l s _ HR.out hl hs).mono ?_
  rintro e w' ⟨v, rfl, hown, hb⟩
  go_wp2
  go_ret
  exact ⟨v, rfl, hown, hb⟩
theorem wText_fits (g : Nat) (most : Int) (l : List UInt8) (s : ByteArray) (w : World) (hW : Wr w g most l 0) (hl : l.length ≤ 1048576) (hs : s.size ≤ 1048576) (hfit : (l.length : Int) + s.size + 10 ≤ most) :
    Calls Try.prog 92 #[.pointer (some ⟨g, 0, none⟩), .string s] w fun e w' => e = .returned (.tuple #[]) ∧ Wr w' g most (l ++ textB s.data.toList) 0 ∧ Fr (· = g) w w' := by
  have HW := hide (hW.below ((Below.refl _ _).alloc (Nat.le_refl _) (.cells #[.string s] 9)))
  have hg := hW.lt
  clear hW
  go_enter Try.func92, Try.ntmps92
  go_wp2_with fail
  refine (lay_any g 114 w.heap.size most l (textB s.data.toList) _ HW.out (fun w1 A hh hr => text1_any A l _ s w1 hr hl hs ?_) cf114).mono ?_
  · have : w1.heap[w.heap.size]? = some (.cells #[.string s] 9) := by rw [hh]; exact obj_new w _
    simpa using obj_cell this 0
  · rintro e w' ⟨rfl, hw', hf⟩
    go_wp2
    go_end0
    have hz := zz_lt (s.size : Int) (by omega) (by omega)
    have hlen := numN_ten _ hz
    have hn : ¬ most < ((l ++ textB s.data.toList).length : Int) := by
      rw [List.length_append]
      unfold textB num
      rw [List.length_append, ← size_list]
      omega
    rw [layTo, layErr, if_neg hn, if_neg hn] at hw'
    exact ⟨rfl, hw', ((Fr.refl _ _).alloc _).trans hf (fun _ _ h => h)⟩

theorem wDone_ok (g : Nat) (most : Int) (l : List UInt8) (w : World) (hW : Wr w g most l 0) :
    Calls Try.prog 60 #[.pointer (some ⟨g, 0, none⟩)] w fun e w' => e = .returned (.tuple #[.string ⟨l.toArray⟩, .int .i64 0]) ∧ w = w' := by
  obtain ⟨A, c, hb, hc, hr, ht⟩ := hW
  have c1 := obj_cell hb 1
  have c2 := obj_cell hb 2
  simp only [List.getElem?_toArray, List.getElem?_cons_zero, List.getElem?_cons_succ] at c1 c2
  have hcv : (convert 119 9 (.slice A l.length c)).run Try.prog w = .ok (.string ⟨l.toArray⟩) w := conv_str l rfl (fun ad e => (hr.2 ad e).2) hr.1
  clear hb hc hr ht
  go_enter Try.func60, Try.ntmps60
  go_wp2
  go_ret2
  exact ⟨rfl, rfl⟩
end Go.Proofs.Ythcnoamgkkbkcaa
