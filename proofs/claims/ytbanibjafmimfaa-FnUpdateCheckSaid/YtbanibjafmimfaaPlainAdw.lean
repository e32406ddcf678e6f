/-
  Laws of words added in a circle: plain arithmetic, no program in sight.
-/
import Derived.Test.YtbanibjafmimfaaPlain
namespace Go.Proofs.Ytbanibjafmimfaa

theorem adw_comm (a b : Int) : adw a b = adw b a := by
  unfold adw addW
  by_cases ha : inR a 0 65535 = true <;> by_cases hb : inR b 0 65535 = true <;> simp [ha, hb, Int.add_comm]
theorem adw_range {a b : Int} (ha : inR a 0 65535 = true) (hb : inR b 0 65535 = true) : 0 ≤ adw a b ∧ adw a b ≤ 65535 := by
  rw [adw_yes ha hb]; exact addW_word (inR_iff.1 ha) (inR_iff.1 hb)
theorem adw_zero {a : Int} (ha : inR a 0 65535 = true) : adw a 0 = a := by
  have := inR_iff.1 ha
  rw [adw_yes ha (by decide), addW_lo (by omega)]; omega
theorem adw_mod {a b : Int} (ha : inR a 0 65535 = true) (hb : inR b 0 65535 = true) : (adw a b - a - b).tmod 65535 = 0 := by
  rw [adw_yes ha hb]
  unfold addW
  split
  · have : a + b - 65535 - a - b = -65535 := by omega
    rw [this]; decide
  · have : a + b - a - b = 0 := by omega
    rw [this]; decide
theorem adw_other {a : Int} (ha : inR a 0 65535 = true) : adw a (65535 - a) = 65535 := by
  have := inR_iff.1 ha
  rw [adw_yes ha (inR_yes (by omega)), addW_lo (by omega)]; omega
theorem adw_three {a b c : Int} (ha : inR a 0 65535 = true) (hb : inR b 0 65535 = true) (hc : inR c 0 65535 = true) : adw (adw a b) c = adw a (adw b c) := by
  have h1 := adw_range ha hb
  have h2 := adw_range hb hc
  have ha' := inR_iff.1 ha
  have hb' := inR_iff.1 hb
  have hc' := inR_iff.1 hc
  rw [adw_yes (inR_yes h1) hc, adw_yes ha (inR_yes h2), adw_yes ha hb, adw_yes hb hc]
  unfold addW
  repeat' split
  all_goals omega
theorem adw_in {a b : Int} (ha : inR a 0 65535 = true) (hb : inR b 0 65535 = true) : inR (adw a b) 0 65535 = true := inR_yes (adw_range ha hb)

theorem upd_range {c o n : Int} (hc : inR c 0 65535 = true) (ho : inR o 0 65535 = true) (hn : inR n 0 65535 = true) : 0 ≤ upd c o n ∧ upd c o n ≤ 65535 := by
  have hc' := inR_iff.1 hc
  have ho' := inR_iff.1 ho
  have hn' := inR_iff.1 hn
  have h1 := addW_word (a := 65535 - c) (b := 65535 - o) (by omega) (by omega)
  have h2 := addW_word h1 hn'
  rw [upd_yes hc ho hn]; omega
theorem upd_in {c o n : Int} (hc : inR c 0 65535 = true) (ho : inR o 0 65535 = true) (hn : inR n 0 65535 = true) : inR (upd c o n) 0 65535 = true := inR_yes (upd_range hc ho hn)
theorem upd_back {c o n : Int} (hc : inR c 0 65535 = true) (ho : inR o 0 65535 = true) (hn : inR n 0 65535 = true) (h : c ≠ 65535) : upd (upd c o n) n o = c := by
  have hc' := inR_iff.1 hc
  have ho' := inR_iff.1 ho
  have hn' := inR_iff.1 hn
  rw [upd_yes (upd_in hc ho hn) hn ho, upd_yes hc ho hn]
  unfold addW
  repeat' split
  all_goals omega
theorem upd_same {c o : Int} (hc : inR c 0 65535 = true) (ho : inR o 0 65535 = true) : upd c o o = c ∨ c = 65535 ∧ upd c o o = 0 := by
  have hc' := inR_iff.1 hc
  have ho' := inR_iff.1 ho
  rw [upd_yes hc ho ho]
  unfold addW
  repeat' split
  all_goals omega
theorem upd_twice {c o n d : Int} (hc : inR c 0 65535 = true) (ho : inR o 0 65535 = true) (hn : inR n 0 65535 = true) (hd : 1 ≤ d ∧ d ≤ 65535) : upd (upd c o n) n d = upd c o d := by
  have hc' := inR_iff.1 hc
  have ho' := inR_iff.1 ho
  have hn' := inR_iff.1 hn
  have hd' : inR d 0 65535 = true := inR_yes (by omega)
  rw [upd_yes (upd_in hc ho hn) hn hd', upd_yes hc ho hn, upd_yes hc ho hd']
  unfold addW
  repeat' split
  all_goals omega

end Go.Proofs.Ytbanibjafmimfaa
